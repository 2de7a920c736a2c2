/-
  The symbolic executor, part g: code, and functions.
-/
import Derived.Test.YtdplnhkfbmgofaaGreatDoorPv2kf
set_option linter.defProp false
set_option linter.unusedSimpArgs false
namespace Go.Pv
open Go Go.RowKit
inductive LH where
  | none
  | inv (its : List It)
  | alt (a b : List It)
  | FH (n : Nat)
  | alts (l : List (List It))
structure Hint where
  loop : Nat → LH
  join : Nat → Nat → Option (List It)
  ent : Nat → Ent
def aX : Hint := ⟨fun _ => .none, fun _ _ => none, fun _ => none⟩
def sN : Code → Option Nat
  | .region id _ _ => some id
  | .seq a b => match sN a with
    | some i => some i
    | none => sN b
  | .cond _ a b => match sN a with
    | some i => some i
    | none => sN b
  | .block _ b => sN b
  | .scope b => sN b
  | .loop b => sN b
  | _ => none
def F9 : Code → Option Nat
  | .region id _ _ => some id
  | .seq a b => match F9 b with
    | some i => some i
    | none => F9 a
  | .cond _ a b => match F9 b with
    | some i => some i
    | none => F9 a
  | .block _ b => F9 b
  | .scope b => F9 b
  | .loop b => F9 b
  | _ => none
def VT (i : Nat) : List Oper → Bool
  | [] => false
  | o :: l => (match o.dst with
    | some t => t == i
    | none => false) || VT i l
def M6 : Code → Nat → Bool
  | .region _ ops _, i => VT i ops.toList
  | .seq a b, i => M6 a i || M6 b i
  | .cond _ a b, i => M6 a i || M6 b i
  | .block _ b, i => M6 b i
  | .scope b, i => M6 b i
  | .loop b, i => M6 b i
  | _, _ => false
def ends (t : Option Nat) : Code → Bool
  | .skip => t.isNone
  | .label _ => t.isNone
  | .region _ _ _ => t.isNone
  | .seq a b => (ends none a && ends t b) || (t.isSome && ends t a)
  | .cond _ a b => ends t a || ends t b
  | .block id b => match t with
    | none => ends none b || ends (some id) b
    | some j => ends (some j) b
  | .loop b => t.isSome && ends t b
  | .scope b => ends t b
  | .exit id => match t with
    | none => false
    | some j => j == id
  | _ => false
def gE (t : Option Nat) : Code → Nat → Bool
  | .region _ ops _, i => VT i ops.toList
  | .seq a b, i => (ends none a && ends t b && (gE none a i || gE t b i)) || (t.isSome && ends t a && gE t a i)
  | .cond _ a b, i => (ends t a && gE t a i) || (ends t b && gE t b i)
  | .block id b, i => match t with
    | none => (ends none b && gE none b i) || (ends (some id) b && gE (some id) b i)
    | some j => gE (some j) b i
  | .loop b, i => (ends none b && gE none b i) || gE t b i
  | .scope b, i => gE t b i
  | _, _ => false
def nT (c : Code) : Exit → Nat → Bool
  | .normal => gE none c
  | .exit id => gE (some id) c
  | _ => M6 c
def jP (c : Code) : Exit → Bool
  | .normal => ends none c
  | .exit id => ends (some id) c
  | _ => true
theorem JS : ∀ {l : List Oper} {o : Oper} {t : Tmp}, o ∈ l → o.dst = some t → VT t l = true
  | [], _, _, h, _ => by cases h
  | a :: l, o, t, h, ht => by
    simp only [VT, Bool.or_eq_true]
    rcases List.mem_cons.1 h with rfl | h
    · exact .inl (by simp [ht])
    · exact .inr (JS h ht)
def A41 (H : Hint) (a : Code) : Option (List It) := match sN a, F9 a with
  | some i, some j => H.join i j
  | _, _ => none
def fits (st : St) : List It → Bool
  | [] => true
  | .arr k _ _ :: l => (match st.σ k with
    | some (.arr _ _ _) => true
    | _ => false) && fits st l
  | .own t _ _ :: l => (match st.s t with
    | .own _ => true
    | .p t => (match eN t with
      | some (true, []) => true
      | _ => false)
    | _ => false) && fits st l
  | .box k _ :: l => (match st.σ k with
    | some (.rows _ _) => true
    | _ => false) && fits st l
  | .map k _ _ _ :: l => (match st.σ k with
    | some (.map _ _) => true
    | _ => false) && fits st l
  | .bW k :: l => (match st.σ k with
    | some (.bW _ _ _ _) => true
    | _ => false) && fits st l
  | _ :: l => fits st l
def A6F (h : LH) (st : St) : Option (List It) := match h with
  | .inv its => some its
  | .alt a b => match fits st a with
    | true => some a
    | false => some b
  | .alts l => l.find? fun its => fits st its
  | _ => none
def A45 (H : Hint) (b : Code) : LH := match sN b with
  | some i => H.loop i
  | none => .none
section
variable (C : j9) (P : Program) (E : Env) (I : Inl) (H : Hint) (nt : Nat)
def A2A (ops : List Oper) (st : St) : Nat → Operand → Option Nat
  | 0, _ => none
  | f + 1, x => match ev (b8 true st.s) x with
    | .ptr k _ _ => some k
    | _ => match x with
      | .tmp t => match ops.find? (fun o => o.dst == some t) with
        | some o => match o.op with
          | .fieldAddr _ a _ => A2A ops st f a
          | _ => none
        | none => none
      | _ => none
def A94 (ops : Array Oper) (st : St) : Option Nat := ops.toList.foldl (fun m o => match o.op with
  | .store _ a _ => match A2A ops.toList st 6 a, m with
    | some k, some m => some (min k m)
    | _, _ => none
  | _ => m) (some st.n)
def ATZ (E : Env) (ops : Array Oper) : Option Nat := ((List.range ops.size).filter fun i => match ops[i]? with
  | some o => match o.op with
    | .call c => match c.callee with
      | .value (.tmp _) => true
      | .value (.func f) => (E f).isNone
      | _ => false
    | _ => false
  | none => false).getLast?
def A2B (E : Env) (ops : Array Oper) : Option Nat := match ATZ E ops with
  | some t => match SM E ops t with
    | true => some t
    | false => none
  | none => none
def A9D (id : Nat) (ops : Array Oper) (draw : Bool) (st : St) (K : St → Prop) : Prop :=
  match draw with
  | false => evK C P E nt I (H.ent id) false ops ops.toList st K
  | true => match A2B E ops with
   | some t => zH false C P E nt ops st.n (List.range t) (gB ops st) fun st1 => evK C P E nt I none false ops (ops.toList.drop t) st1 K
   | none => match qI E ops with
    | true => evK C P E nt I none true ops ops.toList st K
    | false => match q0 false E ops with
      | true => zH false C P E nt ops st.n (AS false E ops) (gB ops st) K
      | false => match q0 true E ops && A0F ops, A94 ops st with
       | true, some base => match Nat.ble base st.n with
        | true => zH true C P E nt ops base (AS true E ops) (gB ops st) K
        | false => C.bad 510
       | _, _ => match Nat.ble ops.size 7 with
        | true => anyS C P E nt ops K ops.size (Array.replicate ops.size false) st
        | false => C.bad 501
def AJM (its : List It) (st₀ : St) (X : DB.den its → Prop) (Q : Exit → St → Prop) : Exit → St → Prop
  | .normal, st => match GD its st₀ st with
    | true => ARR C st₀ st its X
    | false => C.bad 502
  | e, st => Q e (TZ its st₀ st)
def unr (F : (Exit → St → Prop) → St → Prop) (Q : Exit → St → Prop) : Nat → St → Prop
  | 0, _ => C.bad 503
  | n + 1, st => F (fun e st' => match e with
    | .normal => unr F Q n st'
    | e => Q e st') st
def AZ3 (c : Operand) (b : Bool) (st : St) : St := match c with
  | .tmp t => match st.s t with
    | .p (.v (.bool _)) => ⟨b9 st.s t (.p (.v (.bool b))), st.σ, st.n⟩
    | _ => st
  | _ => st
def sx : Code → (Exit → St → Prop) → St → Prop
  | .skip, Q, st => Q .normal st
  | .label _, Q, st => Q .normal st
  | .region id ops draw, Q, st => A9D C P E I H nt id ops draw st (Q .normal)
  | .seq a b, Q, st => match A41 H a with
    | none => sx a (ZD (sx b Q) Q) st
    | some its => C.join (DB.den its) (fun X => sx a (AJM C its st X Q) (NL its st)) fun y => sx b Q (TZ its st (yI its (gE none a) st y))
  | .cond c t e, Q, st => match ev (b8 true st.s) c with
    | .p (.v (.bool b)) => aB b (sx t Q (AZ3 c true st)) (sx e Q (AZ3 c false st))
    | _ => C.bad 504
  | .block id b, Q, st => sx b (DE id Q) st
  | .loop b, Q, st => match A45 H b with
    | .FH n => unr C (sx b) Q n st
    | h => match A6F h st with
      | some its => match GD its st (NL its st) && ends none b with
        | true => ARR C st (NL its st) its fun y => C.loop (DB.den its) (fun X y => sx b (AJM C its st X Q) (yI its (gE none b) st y)) y
        | false => C.bad 505
      | none => C.bad 506
  | .exit id, Q, st => Q (.exit id) st
  | .ret, Q, st => Q .ret st
  | .scope b, Q, st => sx b (SK Q) st
  | _, _, _ => C.bad 507
end
theorem AGD {c : Operand} {b : Bool} {st : St} (h : ev (b8 true st.s) c = .p (.v (.bool b))) : AZ3 c b st = st := by
  unfold AZ3
  split
  · rename_i t
    split
    · rename_i b' hb
      have : b' = b := by
        simp only [ev, b8, hb, strip] at h
        cases h; rfl
      subst this
      have : b9 st.s t (.p (.v (.bool b'))) = st.s := by
        funext i
        by_cases e : i = t
        · subst e; rw [fP, hb]
        · rw [bL _ _ e]
      rw [this]
    · rfl
  · rfl
def AL (P : Program) (b : Code) (Q : Exit → Act → World → Prop) (a : Act) (w : World) : Prop :=
  ∀ (fb : Frame) (k : List Item) (cs : List Frame), ∃ e a' w', Q e a' w' ∧ Arrives P (lone (fb.at a (.code b :: .inLoop b :: k)) cs w) fb k cs e a' w'
theorem AL.wp {P : Program} {b : Code} {Q : Exit → Act → World → Prop} {a : Act} {w : World} (h : AL P b Q a w) : (Code.loop b).wp P Q a w := by
  intro fb k cs
  obtain ⟨e, a', w', hq, harr⟩ := h fb k cs
  exact ⟨e, a', w', hq, .of_steps (.one step_loop) harr⟩
theorem AL.round {P : Program} {b : Code} {Q : Exit → Act → World → Prop} {a : Act} {w : World} (h : b.wp P (fun e a w => match e with
    | .normal => AL P b Q a w
    | e => Q e a w) a w) : AL P b Q a w := by
  intro fb k cs
  obtain ⟨e, a₁, w₁, hq, harr⟩ := h fb (.inLoop b :: k) cs
  cases e with
  | normal =>
    obtain ⟨e₂, a₂, w₂, hq₂, harr₂⟩ := hq fb k cs
    exact ⟨e₂, a₂, w₂, hq₂, .of_steps (Steps.trans harr (.one step_inLoop)) harr₂⟩
  | exit id => exact ⟨_, a₁, w₁, hq, .pass (x := .inLoop b) rfl (fun _ _ => .inl (by simp)) harr⟩
  | goto l => exact ⟨_, a₁, w₁, hq, .pass (x := .inLoop b) rfl (fun _ _ => .inl (by simp)) harr⟩
  | ret => exact ⟨_, a₁, w₁, hq, .pass (x := .inLoop b) rfl (fun _ _ => .inl (by simp)) harr⟩
  | panic ch => exact ⟨_, a₁, w₁, hq, .pass (x := .inLoop b) rfl (fun _ _ => .inl (by simp)) harr⟩
  | outgrown => exact ⟨_, a₁, w₁, hq, .pass (x := .inLoop b) rfl (fun _ _ => .inl (by simp)) harr⟩
section
variable {P : Program} {E : Env} {I : Inl} {H : Hint} {nt : Nat}
theorem Fr.A17 {its : List It} {A B D : Nat → Bool} {st₀ st : St} {y : DB.den its} (h : Fr B (yI its A st₀ y) st) (hD : ∀ i, D i = false → A i = false ∧ B i = false) : Fr D st₀ (TZ its st₀ st) ∧ ∀ k x, kept its st₀ k = true → st₀.σ k = some x → st.σ k = some (lock x) := by
  have hk : ∀ k x, kept its st₀ k = true → st₀.σ k = some x → st.σ k = some (lock x) := by
    intro k x hke hx
    obtain ⟨hlt, x0, h0, h1, _⟩ := kQ hke
    rw [hx] at h0; cases h0
    exact h.b.2 k (lock x) (by show k < st₀.n + uL its; omega) (by simp only [yI, decide_eq_true hlt, hke, hx, Option.map_some]) h1
  refine ⟨⟨fun i hi => ?_, ?_, fun k x hlt hx hw => ?_⟩, hk⟩
  · obtain ⟨h1, h2⟩ := hD i hi
    have := h.s i h2
    simp only [yI, h1] at this
    exact this
  · have := h.b.1
    simp only [yI] at this
    show st₀.n ≤ st.n
    omega
  · have hke := BT (its := its) hlt hx hw
    simp only [TZ, hke, hx]
theorem Fr.A9B {its : List It} {A : Nat → Bool} {st₀ st : St} (h : Fr A (NL its st₀) st) : Fr A st₀ (TZ its st₀ st) ∧ ∀ k x, kept its st₀ k = true → st₀.σ k = some x → st.σ k = some (lock x) := by
  have hk : ∀ k x, kept its st₀ k = true → st₀.σ k = some x → st.σ k = some (lock x) := by
    intro k x hke hx
    obtain ⟨hlt, x0, h0, h1, _⟩ := kQ hke
    rw [hx] at h0; cases h0
    exact h.b.2 k (lock x) hlt (by simp only [NL, hke, hx, Option.map_some]) h1
  refine ⟨⟨fun i hi => h.s i hi, h.b.1, fun k x hlt hx hw => ?_⟩, hk⟩
  have hke := BT (its := its) hlt hx hw
  simp only [TZ, hke, hx]
theorem AZU {its : List It} {A : Nat → Bool} {st₀ : St} {y : DB.den its} : Fr A st₀ (TZ its st₀ (yI its A st₀ y)) := by
  refine ⟨fun i hi => ?_, ?_, fun k x hlt hx hw => ?_⟩
  · simp only [TZ, yI, hi]
  · show st₀.n ≤ st₀.n + uL its
    omega
  · have hke := BT (its := its) hlt hx hw
    simp only [TZ, hke, hx]
theorem AZX {its : List It} {A : Nat → Bool} {st₀ : St} {y : DB.den its} : ∀ k x, kept its st₀ k = true → st₀.σ k = some x → (yI its A st₀ y).σ k = some (lock x) := by
  intro k x hke hx
  obtain ⟨hlt, _⟩ := kQ hke
  simp only [yI, decide_eq_true hlt, hke, hx, Option.map_some]
theorem AZ4 {its : List It} {st₀ : St} : ∀ k x, kept its st₀ k = true → st₀.σ k = some x → (NL its st₀).σ k = some (lock x) := by
  intro k x hke hx
  simp only [NL, hke, hx, Option.map_some]
theorem ABQ {cx : Cx} {its : List It} {A : Nat → Bool} {st₀ st : St} {y : DB.den its} {ρ₀ ρ : Nat → Option Loc} {a₀ a : Act} {w₀ w : World} (hR0 : Rel cx nt ρ₀ st₀ a₀ w₀) (hR : Rel (HE cx its st₀ ρ₀ w₀) nt ρ st a w) (hs : ∀ i, A i = false → st.s i = st₀.s i)
    (hk : ∀ k x, kept its st₀ k = true → st₀.σ k = some x → st.σ k = some (lock x)) (hok : GD its st₀ st = true) (hy : AFP st₀.n st₀ st its y) : ∃ ρ', Rel (HE cx its st₀ ρ₀ w₀) nt ρ' (yI its A st₀ y) a w := by
  have hdom : ∀ k l, ρ₀ k = some l → k < st₀.n := fun k l hl => (hR0.inv.new k l hl).1
  refine AYX hR (fun i _ => (hR0.lT i).blw hdom) (fun k x hx => ?_) hdom (fun k x hx hw => ?_) hs hk hok hy
  · obtain ⟨l, _, hb⟩ := hR0.inv.boxes k x hx
    exact hb.blw hdom
  · change (NL its st₀).σ k = some x at hx
    cases hke : kept its st₀ k with
    | true => rfl
    | false =>
      simp only [NL, hke] at hx
      obtain ⟨l, hl, _⟩ := hR0.inv.boxes k x hx
      rw [BT (hdom k l hl) hx hw] at hke
      cases hke
theorem LK {its : List It} {st₀ st : St} (h : GD its st₀ st = true) : HF st₀.n its = true := by
  unfold GD at h
  rw [Bool.and_eq_true] at h
  exact h.2
theorem FV {its : List It} {st₀ st : St} {X : DB.den its → Prop} {Q : Exit → St → Prop} (h : AJM bZ its st₀ X Q .normal st) : GD its st₀ st = true ∧ ∃ y, X y ∧ AFP st₀.n st₀ st its y := by
  simp only [AJM] at h
  split at h
  · rename_i hok
    exact ⟨hok, J2 (LK hok) h⟩
  · exact h.elim
theorem JY {its : List It} {st₀ st : St} {X : DB.den its → Prop} {Q : Exit → St → Prop} {e : Exit} (he : e ≠ .normal) (h : AJM bZ its st₀ X Q e st) : Q e (TZ its st₀ st) := by
  cases e <;> first | exact h | exact absurd rfl he
theorem VH {t : Option Nat} : ∀ {c : Code} {i : Nat}, M6 c i = false → gE t c i = false := by
  intro c
  induction c generalizing t with
  | seq a b iha ihb =>
    intro i h
    simp only [M6, Bool.or_eq_false_iff] at h
    simp only [gE, iha (t := none) h.1, iha (t := t) h.1, ihb (t := t) h.2, Bool.or_false, Bool.and_false]
  | cond c a b iha ihb =>
    intro i h
    simp only [M6, Bool.or_eq_false_iff] at h
    simp only [gE, iha (t := t) h.1, ihb (t := t) h.2, Bool.or_false, Bool.and_false]
  | block id b ih =>
    intro i h
    simp only [M6] at h
    cases t with
    | none => simp only [gE, ih (t := none) h, ih (t := some id) h, Bool.and_false, Bool.or_false]
    | some j => simp only [gE, ih (t := some j) h]
  | loop b ih =>
    intro i h
    simp only [M6] at h
    simp only [gE, ih (t := none) h, ih (t := t) h, Bool.and_false, Bool.or_false]
  | region id ops draw => intro i h; exact h
  | scope b ih =>
    intro i h
    simp only [M6] at h
    simp only [gE, ih (t := t) h]
  | _ => intro i h; rfl
structure ZE (c : Code) (e : Exit) (st st' : St) : Prop where
  fr : Fr (nT c e) st st'
  ok : jP c e = true
theorem CT (hE : aR P E) (hm : P.follows .mixedOrders = true) (hh : fU E) (hI : ABO P I) : ∀ (c : Code) (cx : Cx), cx.P = P → ∀ (Q : Exit → St → Prop) (st : St), sx bZ P E I H nt c Q st → AW cx nt c (fun e st' => Q e st' ∧ ZE c e st st') st := by
  intro c
  induction c with
  | skip => exact fun cx hP Q st h ρ a w hr => wp_skip ⟨st, ρ, hr, h, Fr.refl _ _, rfl⟩
  | label l => exact fun cx hP Q st h ρ a w hr => wp_label ⟨st, ρ, hr, h, Fr.refl _ _, rfl⟩
  | region id ops draw =>
    intro cx hP Q st h
    subst hP
    have hA : ∀ o ∈ ops.toList, ∀ t, o.dst = some t → nT (.region id ops draw) .normal t = true := fun o ho t ht => JS ho ht
    simp only [sx, A9D] at h
    split at h
    · intro ρ a w hr
      refine wp_region ?_
      have := u7 (Q := rG cx nt fun e st' => Q e st' ∧ ZE (.region id ops false) e st st') hE hh hI (fun st' ρ a w hr' hf hk => ⟨st', ρ, hr', hk, hf, rfl⟩) ops.toList 0 st ρ a w (by simp) hA (Fr.refl _ _) hr h
      rw [List.range_eq_range']
      simpa using this
    · split at h
      · rename_i t htail
        have hT : SM E ops t = true := by
          unfold A2B at htail
          split at htail
          · split at htail
            · cases htail; assumption
            · cases htail
          · cases htail
        obtain ⟨st1, h1, h2, h3⟩ := HN hh hA (List.range t) (gB ops st) (Fr.refl _ _) h
        have hroom : Fr (nT (.region id ops true) .normal) st (gB ops st) := ⟨fun _ _ => rfl, tX.same (n' := (gB ops st).n) (Nat.le_add_right _ _)⟩
        refine AMU hE hm hT h1 fun ρ a w hr => ?_
        have := u7 (Q := rG cx nt fun e st' => Q e st' ∧ ZE (.region id ops true) e st st') hE hh hI (fun st' ρ a w hr' hf hk => ⟨st', ρ, hr', hk, hf, rfl⟩) (ops.toList.drop t) t st1 ρ a w (fun j => by simp) (fun o ho => hA o (List.mem_of_mem_drop ho)) (hroom.trans h2) hr h3
        simpa using this
      split at h
      · rename_i hord
        obtain ⟨st', h1, h2, h3⟩ := ARP hh ops.toList st hA (Fr.refl _ _) h
        exact AFL hE hm hord h1 ⟨h3, h2, rfl⟩
      · split at h
        · rename_i hord
          obtain ⟨st', h1, h2, h3⟩ := HN hh hA (AS false E ops) (gB ops st) (Fr.refl _ _) h
          have hroom : Fr (nT (.region id ops true) .normal) st (gB ops st) := ⟨fun _ _ => rfl, tX.same (n' := (gB ops st).n) (Nat.le_add_right _ _)⟩
          exact T6 hE hm hord h1 ⟨h3, hroom.trans h2, rfl⟩
        · split at h
          · rename_i hord hlow
            split at h
            · rename_i hle
              obtain ⟨st', h1, h2, h3⟩ := HN hh hA (AS true E ops) (gB ops st) (Fr.refl _ _) h
              have hroom : Fr (nT (.region id ops true) .normal) st (gB ops st) := ⟨fun _ _ => rfl, tX.same (n' := (gB ops st).n) (Nat.le_add_right _ _)⟩
              rw [Bool.and_eq_true] at hord
              exact AMT hE hm (Nat.le_of_ble_eq_true hle) hord.2 hord.1 h1 ⟨h3, hroom.trans h2, rfl⟩
            · exact h.elim
          split at h
          · refine A2D hE hm ?_
            have := U7 hh hA ops.size (Array.replicate ops.size false) st (Fr.refl _ _) h
            exact NU (fun s hs => ⟨hs.2, hs.1, rfl⟩) this
          · exact h.elim
  | seq a b iha ihb =>
    intro cx hP Q st h
    have fab : ∀ {e : Exit} {st st1 st2 : St}, Fr (gE none a) st st1 → ends none a = true → ZE b e st1 st2 → ZE (.seq a b) e st st2 := by
      intro e st st1 st2 h1 h2 h3
      have hends : jP (.seq a b) e = true := by
        have := h3.ok
        cases e <;> simp only [jP, ends] at this ⊢ <;> simp [h2, this]
      have hi : ∀ i, nT (.seq a b) e i = false → gE none a i = false ∧ nT b e i = false := by
        intro i hi
        have h4 := h3.ok
        cases e <;> simp only [jP, nT, gE, M6] at hi h4 ⊢ <;> simp only [h2, h4, Bool.true_and, Bool.or_eq_false_iff] at hi <;> first | exact hi.1 | exact ⟨VH hi.1, hi.2⟩
      exact ⟨(h1.mono fun i h => (hi i h).1).trans (h3.fr.mono fun i h => (hi i h).2), hends⟩
    have fa : ∀ {e : Exit} {st st1 : St}, e ≠ .normal → jP a e = true → Fr (nT a e) st st1 → ZE (.seq a b) e st st1 := by
      intro e st st1 hne h2 h1
      refine ⟨h1.mono fun i hi => ?_, ?_⟩
      · cases e <;> simp only [jP, nT, gE, M6] at hi h2 ⊢
        · exact absurd rfl hne
        · simp only [h2, Option.isSome_some, Bool.true_and, Bool.or_eq_false_iff] at hi; exact hi.2
        all_goals (simp only [Bool.or_eq_false_iff] at hi; exact hi.1)
      · cases e <;> simp only [jP, ends] at h2 ⊢
        · exact absurd rfl hne
        · simp [h2]
    simp only [sx] at h
    split at h
    · intro ρ act w hr
      refine wp_seq (wp_mono (iha cx hP _ st h ρ act w hr) ?_)
      rintro e a' w' ⟨st', ρ', hr', hq, hf⟩
      by_cases he : e = .normal
      · subst he
        refine wp_mono (ihb cx hP Q st' hq ρ' a' w' hr') ?_
        rintro e2 a2 w2 ⟨st2, ρ2, hr2, hq2, hf2⟩
        exact ⟨st2, ρ2, hr2, hq2, fab hf.fr hf.ok hf2⟩
      · have hp : rG cx nt (fun e st' => Q e st' ∧ ZE (.seq a b) e st st') e a' w' := ⟨st', ρ', hr', by cases e <;> first | exact absurd rfl he | exact hq, fa he hf.ok hf.fr⟩
        cases e <;> first | exact absurd rfl he | exact hp
    · rename_i its hj
      intro ρ act w hr
      have h : sx bZ P E I H nt a (AJM bZ its st (fun y => sx bZ P E I H nt b Q (TZ its st (yI its (gE none a) st y))) Q) (NL its st) := h
      refine wp_seq ?_
      have h1 := iha (HE cx its st ρ w) hP _ _ h ρ act w (AT4 hr)
      refine wp_mono h1 ?_
      rintro e a' w' ⟨st', ρ', hr', hq, hf⟩
      obtain ⟨hf1, hk⟩ := hf.fr.A9B
      by_cases he : e = .normal
      · subst he
        obtain ⟨hok, y, hX, hy⟩ := FV hq
        obtain ⟨ρ2, hr2⟩ := ABQ (A := gE none a) hr hr' (fun i hi => hf.fr.s i hi) hk hok hy
        have hr3 := AFK hr hr2 AZX
        refine wp_mono (ihb cx hP Q _ hX ρ2 a' w' hr3) ?_
        rintro e2 a2 w2 ⟨st2, ρ2, hr2, hq2, hf2⟩
        exact ⟨st2, ρ2, hr2, hq2, fab AZU hf.ok hf2⟩
      · have := JY he hq
        have hp : rG cx nt (fun e st' => Q e st' ∧ ZE (.seq a b) e st st') e a' w' := ⟨_, ρ', AFK hr hr' hk, this, fa he hf.ok hf1⟩
        cases e <;> first | exact absurd rfl he | exact hp
  | cond c t e iht ihe =>
    intro cx hP Q st h ρ a w hr
    simp only [sx] at h
    split at h
    · rename_i b hb
      have hev := hr.evS c
      rw [hb] at hev
      have hval : a.eval c = .bool b := by
        generalize a.eval c = q at hev ⊢
        cases hev with
        | p _ _ h => cases h; rfl
      refine wp_cond hval ?_
      rw [r8] at h
      have f1 : ∀ {x : Exit} {st st1 : St}, ZE t x st st1 → ZE (.cond c t e) x st st1 := by
        intro x st st1 hf
        have h2 := hf.ok
        refine ⟨hf.fr.mono fun i hi => ?_, ?_⟩
        · cases x <;> simp only [jP, nT, gE, M6] at hi h2 ⊢ <;> simp only [h2, Bool.true_and, Bool.or_eq_false_iff] at hi <;> exact hi.1
        · cases x <;> simp only [jP, ends] at h2 ⊢ <;> simp [h2]
      have f2 : ∀ {x : Exit} {st st1 : St}, ZE e x st st1 → ZE (.cond c t e) x st st1 := by
        intro x st st1 hf
        have h2 := hf.ok
        refine ⟨hf.fr.mono fun i hi => ?_, ?_⟩
        · cases x <;> simp only [jP, nT, gE, M6] at hi h2 ⊢ <;> simp only [h2, Bool.true_and, Bool.or_eq_false_iff] at hi <;> exact hi.2
        · cases x <;> simp only [jP, ends] at h2 ⊢ <;> simp [h2]
      cases b with
      | true =>
        rw [if_pos rfl]
        refine wp_mono (iht cx hP Q st (by have := h.1 rfl; rwa [AGD hb] at this) ρ a w hr) ?_
        rintro e a' w' ⟨st', ρ', hr', hq, hf⟩
        exact ⟨st', ρ', hr', hq, f1 hf⟩
      | false =>
        rw [if_neg (by simp)]
        refine wp_mono (ihe cx hP Q st (by have := h.2 rfl; rwa [AGD hb] at this) ρ a w hr) ?_
        rintro e a' w' ⟨st', ρ', hr', hq, hf⟩
        exact ⟨st', ρ', hr', hq, f2 hf⟩
    · exact h.elim
  | block id b ih =>
    intro cx hP Q st h ρ a w hr
    refine wp_block (wp_mono (ih cx hP _ st h ρ a w hr) ?_)
    rintro e a' w' ⟨st', ρ', hr', hq, hf⟩
    have h2 := hf.ok
    cases e with
    | exit id' =>
      simp only [DE] at hq
      simp only [Exit.inBlock]
      split at hq
      · rename_i e
        rw [if_pos e]
        subst e
        refine ⟨st', ρ', hr', hq, hf.fr.mono fun i hi => ?_, ?_⟩
        · simp only [jP, nT, gE] at hi h2 ⊢
          simp only [h2, Bool.true_and, Bool.or_eq_false_iff] at hi; exact hi.2
        · simp only [jP, ends] at h2 ⊢; simp [h2]
      · rename_i e
        rw [if_neg e]
        exact ⟨st', ρ', hr', hq, hf.fr.mono fun i hi => by simpa only [nT, gE] using hi, by simpa only [jP, ends] using h2⟩
    | normal =>
      refine ⟨st', ρ', hr', hq, hf.fr.mono fun i hi => ?_, ?_⟩
      · simp only [jP, nT, gE] at hi h2 ⊢
        simp only [h2, Bool.true_and, Bool.or_eq_false_iff] at hi; exact hi.1
      · simp only [jP, ends] at h2 ⊢; simp [h2]
    | _ => exact ⟨st', ρ', hr', hq, hf.fr.mono fun i hi => by simpa only [nT, M6] using hi, rfl⟩
  | loop b ih =>
    intro cx hP Q st h ρ a w hr
    have fl : ∀ {e : Exit}, e ≠ .normal → jP b e = true → jP (.loop b) e = true ∧ ∀ i, nT (.loop b) e i = false → (ends none b = true → gE none b i = false) ∧ nT b e i = false := by
      intro e hne h2
      refine ⟨?_, fun i hi => ?_⟩
      · cases e <;> simp only [jP, ends] at h2 ⊢
        · exact absurd rfl hne
        · simp [h2]
      · cases e <;> simp only [nT, gE, M6] at hi ⊢
        · exact absurd rfl hne
        · simp only [Bool.or_eq_false_iff] at hi
          exact ⟨fun h => by simpa [h] using hi.1, hi.2⟩
        all_goals exact ⟨fun _ => VH hi, hi⟩
    simp only [sx] at h
    split at h
    · rename_i n hl
      have key : ∀ (n : Nat) (st1 : St) (ρ : Nat → Option Loc) (a : Act) (w : World), Rel cx nt ρ st1 a w → (st1 = st ∨ ends none b = true) → Fr (gE none b) st st1 → unr bZ (sx bZ P E I H nt b) Q n st1 → AL cx.P b (rG cx nt fun e st' => Q e st' ∧ ZE (.loop b) e st st') a w := by
        intro n
        induction n with
        | zero => intro st1 ρ a w hr _ hf h; exact h.elim
        | succ n ihn =>
          intro st1 ρ a w hr hor hf h
          refine AL.round (wp_mono (ih cx hP _ st1 h ρ a w hr) ?_)
          rintro e a2 w2 ⟨st2, ρ2, hr2, hq2, hf2⟩
          by_cases he : e = .normal
          · subst he
            exact ihn st2 ρ2 a2 w2 hr2 (.inr hf2.ok) (hf.trans hf2.fr) hq2
          · obtain ⟨g1, g2⟩ := fl he hf2.ok
            have hq2' : Q e st2 := by cases e <;> first | exact absurd rfl he | exact hq2
            have hfr : Fr (nT (.loop b) e) st st2 := by
              rcases hor with rfl | hor
              · exact hf2.fr.mono fun i hi => (g2 i hi).2
              · exact (hf.mono fun i hi => (g2 i hi).1 hor).trans (hf2.fr.mono fun i hi => (g2 i hi).2)
            have hp : rG cx nt (fun e st' => Q e st' ∧ ZE (.loop b) e st st') e a2 w2 := ⟨st2, ρ2, hr2, hq2', hfr, g1⟩
            cases e <;> first | exact absurd rfl he | exact hp
      exact (key n st ρ a w hr (.inl rfl) (Fr.refl _ _) h).wp
    · split at h
      · rename_i its hl
        split at h
        · rename_i hok
          obtain ⟨hok, hnn⟩ := (Bool.and_eq_true _ _).mp hok
          obtain ⟨y0, hloop, hy0⟩ := J2 (LK hok) h
          have hr1 := AT4 (its := its) hr
          obtain ⟨ρ1, hr2⟩ := ABQ (A := gE none b) hr hr1 (fun i _ => rfl) AZ4 hok hy0
          have key := hloop (fun y => ∀ ρ' a' w', Rel (HE cx its st ρ w) nt ρ' (yI its (gE none b) st y) a' w' → AL cx.P b (rG cx nt fun e st' => Q e st' ∧ ZE (.loop b) e st st') a' w') (by
            intro y hb ρ' a' w' hr'
            refine AL.round (wp_mono (ih (HE cx its st ρ w) hP _ _ hb ρ' a' w' hr') ?_)
            rintro e a2 w2 ⟨st2, ρ2, hr2, hq2, hf2⟩
            by_cases he : e = .normal
            · subst he
              obtain ⟨hf1, hk⟩ := hf2.fr.A17 (D := gE none b) fun i hi => ⟨hi, hi⟩
              obtain ⟨hok2, y2, hX, hy2⟩ := FV hq2
              obtain ⟨ρ3, hr3⟩ := ABQ (A := gE none b) hr hr2 (fun i hi => hf1.s i hi) hk hok2 hy2
              exact hX ρ3 a2 w2 hr3
            · obtain ⟨g1, g2⟩ := fl he hf2.ok
              by_cases hn : ends none b = true
              · obtain ⟨hf1, hk⟩ := hf2.fr.A17 (D := nT (.loop b) e) fun i hi => ⟨(g2 i hi).1 hn, (g2 i hi).2⟩
                have := JY he hq2
                have hp : rG cx nt (fun e st' => Q e st' ∧ ZE (.loop b) e st st') e a2 w2 := ⟨_, ρ2, AFK hr hr2 hk, this, hf1, g1⟩
                cases e <;> first | exact absurd rfl he | exact hp
              · exact absurd hnn hn)
          exact (key ρ1 a w hr2).wp
        · exact h.elim
      · exact h.elim
  | exit id => exact fun cx hP Q st h ρ a w hr => wp_exit ⟨st, ρ, hr, h, Fr.refl _ _, by simp [jP, ends]⟩
  | ret => exact fun cx hP Q st h ρ a w hr => wp_ret ⟨st, ρ, hr, h, Fr.refl _ _, rfl⟩
  | rangeFunc _ _ _ _ => exact fun cx hP Q st h => h.elim
  | scope b ih =>
    intro cx hP Q st h ρ a w hr
    refine wp_scope_straight (wp_mono (ih cx hP _ st h ρ a w hr) ?_)
    rintro e a' w' ⟨st', ρ', hr', hq, hf⟩
    have h2 := hf.ok
    cases e with
    | goto l => exact hq.elim
    | normal => exact ⟨st', ρ', hr', hq, hf.fr.mono fun i hi => by simpa only [nT, gE] using hi, by simpa only [jP, ends] using h2⟩
    | exit id => exact ⟨st', ρ', hr', hq, hf.fr.mono fun i hi => by simpa only [nT, gE] using hi, by simpa only [jP, ends] using h2⟩
    | _ => exact ⟨st', ρ', hr', hq, hf.fr.mono fun i hi => by simpa only [nT, M6] using hi, rfl⟩
  | goto _ => exact fun cx hP Q st h => h.elim
  | refuse _ => exact fun cx hP Q st h => h.elim
end
section
variable (C : j9) (P : Program) (E : Env) (Hs : FuncId → Hint)
def A9C (rs : Array ResultVar) (K : KN) (e : Exit) (st : St) : Prop := match mA e, AVT P rs st with
  | true, some (d, σ', n') => K d σ' n'
  | _, _ => C.bad 601
def AK3 : Nat → Inl
  | 0 => fun _ _ _ _ _ => C.bad 602
  | k + 1 => fun fid args σ n K => match P.funcs[fid]? with
    | some fn => match fn.body, decide (args.length ≤ fn.ntmps) with
      | some c, true => sx C P E (AK3 k) (Hs fid) fn.ntmps c (A9C C P fn.results K) (PW args σ n)
      | _, _ => C.bad 603
    | none => C.bad 604
def A9M (rs : Array ResultVar) (R : T → Prop) (e : Exit) (st : St) : Prop := match mA e, A6H P rs st with
  | true, some r => R r
  | _, _ => C.bad 701
def A9L (rs : Array ResultVar) (R : List (List T) → Prop) (e : Exit) (st : St) : Prop := match mA e, A6I P rs st with
  | true, some r => R r
  | _, _ => C.bad 702
end
section
variable {P : Program} {E : Env} {Hs : FuncId → Hint}
theorem qH {e : Exit} (h : mA e = true) : e = .normal ∨ e = .ret := by cases e <;> simp [mA] at h <;> simp
theorem tF (hn : cM P = true) {f : FuncId} {fn : Func} (hf : P.funcs[f]? = some fn) : (fn.name == "runtime.NumGoroutine") = false := by
  have := Array.all_eq_true_iff_forall_mem.1 hn fn (Array.mem_of_getElem? hf)
  simpa using this
theorem zU (hE : aR P E) (hm : P.follows .mixedOrders = true) (hn : cM P = true) (hh : fU E) : ∀ k, ABO P (AK3 bZ P E Hs k) := by
  intro k
  induction k with
  | zero => intro cx ρ σ n w fid args vs K hP hG hI ha h; exact h.elim
  | succ k ih =>
    intro cx ρ σ n w fid args vs K hP hG hI ha h
    simp only [AK3] at h
    split at h
    · rename_i fn hf
      split at h
      · rename_i c hb hlen
        have hlen : args.length ≤ fn.ntmps := of_decide_eq_true hlen
        refine ⟨⟨fn, hf, tF hn hf, by simp [hb]⟩, ?_⟩
        subst hP
        let cx' : Cx := ⟨cx.P, cx.own, cx.w0, ρ, σ, w⟩
        have hI' : Inv cx' ρ σ n w := ⟨hI.boxes, hI.inj, hI.new, hI.oA, hI.below, hI.jQ, hI.low⟩
        refine calls_of_wp hf hb ?_
        have hr : Rel cx' fn.ntmps ρ (PW args σ n) { tmps := vs ++ Array.replicate (fn.ntmps - vs.size) undef, defers := [] } w := H6 hI' (bO.refl _ _ _ _) hG ha hlen
        refine wp_mono (CT hE hm hh ih c cx' rfl _ (PW args σ n) h _ _ w hr) ?_
        rintro e a' w' ⟨st', ρ', hr', hq, hf'⟩
        unfold A9C at hq
        split at hq
        · rename_i d σ' n' he hres
          obtain ⟨v, h1, h2, h3⟩ := Y7 hr' hres
          simp only [Prod.mk.injEq] at h3
          obtain ⟨rfl, rfl⟩ := h3
          have hI2 : Inv cx ρ' st'.σ st'.n w' := ⟨hr'.inv.boxes, hr'.inv.inj, hr'.inv.new, hr'.inv.oA, hr'.inv.below, hr'.inv.jQ, hr'.inv.low⟩
          have hk2 : bO cx ρ ρ' σ st'.σ w w' := ⟨hr'.keeps.cell, hr'.keeps.size, hr'.keeps.own, hr'.keeps.loc, hr'.keeps.shape, hr'.keeps.ro⟩
          rcases qH he with rfl | rfl
          · exact ⟨hr'.defers, v, h1, v, ρ', d, st'.σ, st'.n, rfl, hI2, hk2, h2, hf'.fr.b, hq⟩
          · exact ⟨hr'.defers, v, h1, v, ρ', d, st'.σ, st'.n, rfl, hI2, hk2, h2, hf'.fr.b, hq⟩
        · exact hq.elim
      · exact h.elim
    · exact h.elim
def dS (C : j9) (P : Program) (E : Env) (Hs : FuncId → Hint) (k : Nat) (f : FuncId) (args : List T) (R : T → Prop) : Prop := match P.funcs[f]? with
  | some fn => match fn.body, decide (args.length ≤ fn.ntmps) with
    | some c, true => sx C P E (AK3 C P E Hs k) (Hs f) fn.ntmps c (A9M C P fn.results R) (st0 args)
    | _, _ => C.bad 703
  | none => C.bad 704
def MY (C : j9) (P : Program) (E : Env) (Hs : FuncId → Hint) (k : Nat) (f : FuncId) (args : List T) (R : List (List T) → Prop) : Prop := match P.funcs[f]? with
  | some fn => match fn.body, decide (args.length ≤ fn.ntmps) with
    | some c, true => sx C P E (AK3 C P E Hs k) (Hs f) fn.ntmps c (A9L C P fn.results R) (st0 args)
    | _, _ => C.bad 703
  | none => C.bad 704
def AK5 : D → Bool
  | .p t => t.flat
  | _ => false
def TY : D → T
  | .p t => t
  | _ => .v undef
def A0E (C : j9) (σ : Nat → Option bE) (d : D) (K : T → Prop) : Prop := match d with
  | .p t => match eN t with
    | some (_, []) => K (.sl false [])
    | _ => C.EK t.flat (K t)
  | .own k => match σ k with
    | some (.arr false _ rows) => C.EK (rows.all fun r => r.all T.flat) (K (.sl false rows))
    | _ => C.bad 801
  | .map k => match σ k with
    | some (.map false es) => C.EK (es.all fun e => AK5 e.2) (K (.mp (es.map fun e => (e.1, TY e.2))))
    | _ => C.bad 802
  | _ => C.bad 803
def AUH (C : j9) (σ : Nat → Option bE) : List D → (List T → Prop) → Prop
  | [], K => K []
  | d :: l, K => A0E C σ d fun t => AUH C σ l fun ts => K (t :: ts)
def A6M (C : j9) (P : Program) (rs : Array ResultVar) (R : T → Prop) (e : Exit) (st : St) : Prop := match mA e, x8 P st rs.toList with
  | true, some [d] => A0E C st.σ d R
  | true, some ds => AUH C st.σ ds fun ts => R (.cC ts)
  | _, _ => C.bad 804
def tW (C : j9) (P : Program) (E : Env) (Hs : FuncId → Hint) (k : Nat) (f : FuncId) (args : List T) (R : T → Prop) : Prop := match P.funcs[f]? with
  | some fn => match fn.body, decide (args.length ≤ fn.ntmps) with
    | some c, true => sx C P E (AK3 C P E Hs k) (Hs f) fn.ntmps c (A6M C P fn.results R) (st0 args)
    | _, _ => C.bad 703
  | none => C.bad 704
theorem AGM {cx : Cx} {nt : Nat} {ρ : Nat → Option Loc} {st : St} {a : Act} {w : World} (hr : Rel cx nt ρ st a w) {d : D} {v : Value} (hd : Rd w (bP cx ρ st.σ) ρ d v) {K : T → Prop} (h : A0E bZ st.σ d K) : ∃ t, K t ∧ cH w (fun b => b < cx.w0.heap.size) t v := by
  unfold A0E at h
  split at h
  · rename_i t
    cases hd with
    | p _ _ hd =>
    split at h
    · rename_i f hrow
      refine ⟨_, h, ?_⟩
      have := j4 hd hrow
      cases this with
      | cI _ a cap hf hn => exact .cI false a cap (by simp) hn
      | sl _ _ sz bN off cap fc k1 k2 k3 k4 k5 k6 k7 k8 k9 => exact .cI false _ cap (by simp) (by simp)
    · obtain ⟨hf, h⟩ := h
      exact ⟨_, h, hd.EE hf⟩
  · rename_i k
    split at h
    · rename_i z rows hσ
      obtain ⟨hf, h⟩ := h
      refine ⟨_, h, ?_⟩
      have this : cH w (fun _ => False) (.sl false rows) v := KK (own0 := fun _ => False) (τ := st.σ) hr.inv (fun b hb => hb.elim) (fun _ _ h => h) (fun _ _ _ _ _ _ h => h) 1 hd (by simp [iC, hσ])
      have flatc : ∀ i j (hi : i < rows.length) (hj : j < rows[i].length), rows[i][j].flat = true := fun i j hi hj => List.all_eq_true.1 (List.all_eq_true.1 hf _ (List.getElem_mem hi)) _ (List.getElem_mem hj)
      cases hd with
      | own _ l hl hL h1 h2 =>
        have hm := hr.inv.oA k _ l hσ hl hL rfl
        generalize hvv : (Value.slice (some ⟨l.bN, 0, none⟩) l.L l.C) = v at this
        cases this with
        | cI _ a cap hf hn => exact .cI false a cap (by simp) hn
        | sl _ _ sz bN off cap f k1 k2 k3 k4 k5 k6 k7 k8 k9 =>
          have e : l.bN = bN := by
            injection hvv with e1 e2 e3
            injection e1 with e1
            injection e1
          exact .sl false rows sz bN off cap f k1 k2 k3 (by show ¬ bN < _; omega) k5 k6 k7 k8 (fun i j hi hj => (k9 i j hi hj).EE (flatc i j hi hj))
      | dF _ l a hl hL =>
        generalize hvv : (Value.slice a 0 0) = v at this
        cases this with
        | cI _ a cap hf hn => exact .cI false a cap (by simp) hn
        | sl _ _ sz bN off cap f k1 k2 k3 k4 k5 k6 k7 k8 k9 =>
          have e : rows = [] := by
            injection hvv with e1 e2 e3
            exact List.eq_nil_of_length_eq_zero e2.symm
          subst e
          exact .cI false _ cap (by simp) (by simp)
    · exact h.elim
  · rename_i k
    split at h
    · rename_i es hσ
      obtain ⟨hf, h⟩ := h
      refine ⟨_, h, ?_⟩
      obtain ⟨l', ents, hl', hL, ho, hE⟩ := hr.inv.K8 hσ
      cases hd with
      | map _ l hl =>
      have hll : l' = l := by rw [hl] at hl'; exact (Option.some.inj hl').symm
      subst hll
      have hm := hr.inv.oA k _ l' hσ hl hL rfl
      have hlen : (es.map fun e => (e.1, TY e.2)).length = es.length := by simp
      have hex : ∀ i (hi : i < es.length), ∃ e, ents[i]? = some e ∧ e.key = es[i].1 ∧ e.born = i ∧ cH w (fun b => b < cx.w0.heap.size) (TY es[i].2) e.val := by
        intro i hi
        obtain ⟨e, a1, a2, a3, a4⟩ := hE.2 i hi
        have hp := List.all_eq_true.1 hf es[i] (List.getElem_mem hi)
        refine ⟨e, by rw [← Array.getElem?_toList]; exact a1, a2, by omega, ?_⟩
        generalize es[i].2 = d at hp a4
        cases d with
        | p t =>
          cases a4 with
          | p _ _ a4 => exact a4.EE hp
        | _ => cases hp
      refine .mp _ l'.bN ents (fun i => ents.getD i ⟨undef, undef, 0⟩) (by show ¬ l'.bN < _; omega) ((hr.inv.new k l' hl).2 hL).1 (by rw [hlen]; exact ho) (by rw [hlen]; simpa using hE.1) (fun i hi => ?_) (fun i hi => ?_)
      · obtain ⟨e, a1, a2, a3, _⟩ := hex i (by omega)
        rw [show ents.getD i ⟨undef, undef, 0⟩ = e by rw [Array.getD_eq_getD_getElem?, a1]; rfl]
        exact ⟨a1, by simpa using a2, a3⟩
      · obtain ⟨e, a1, _, _, a4⟩ := hex i (by omega)
        rw [show ents.getD i ⟨undef, undef, 0⟩ = e by rw [Array.getD_eq_getD_getElem?, a1]; rfl]
        simpa using a4
    · exact h.elim
  · exact h.elim
theorem YB {cx : Cx} {nt : Nat} {ρ : Nat → Option Loc} {st : St} {a : Act} {w : World} (hr : Rel cx nt ρ st a w) : ∀ {ds : List D} {vs : List Value} {K : List T → Prop}, cT (Rd w (bP cx ρ st.σ) ρ) ds vs.toArray → AUH bZ st.σ ds K → ∃ ts, K ts ∧ cT (cH w (fun b => b < cx.w0.heap.size)) ts vs.toArray
  | [], vs, K, ha, h => by
    have : vs = [] := by simpa using ha.1
    subst this
    exact ⟨[], h, cT.nil⟩
  | d :: ds, vs, K, ha, h => by
    cases vs with
    | nil => have := ha.1; simp at this
    | cons v vs =>
      have h0 := ha.2 0 (by simp)
      have ht : cT (Rd w (bP cx ρ st.σ) ρ) ds vs.toArray := ⟨by have := ha.1; simp at this ⊢; exact this, fun i hi => by
        have := ha.2 (i + 1) (by simp; omega)
        simpa using this⟩
      obtain ⟨t, k1, k2⟩ := AGM hr (by simpa using h0) h
      obtain ⟨ts, k3, k4⟩ := YB hr ht k1
      refine ⟨t :: ts, k3, ?_⟩
      have := (cT.one (R := cH w (fun b => b < cx.w0.heap.size)) k2).append k4
      simpa using this
theorem AWO {cx : Cx} {nt : Nat} {ρ : Nat → Option Loc} {st : St} {a : Act} {w : World} (hr : Rel cx nt ρ st a w) {fn : Func} {R : T → Prop} {e : Exit} (h : A6M bZ cx.P fn.results R e st) :
    mA e = true ∧ ∃ v t, (results fn a.tmps).run cx.P w = .ok v w ∧ R t ∧ cH w (fun b => b < cx.w0.heap.size) t v := by
  have run : ∀ {ds : List D}, x8 cx.P st fn.results.toList = some ds → ∃ vs : Array Value, (fn.results.mapM (tH a.tmps)).run cx.P w = .ok vs w ∧ cT (Rd w (bP cx ρ st.σ) ρ) ds vs := by
    intro ds hds
    obtain ⟨vs, h1, h2⟩ := pD hr hds
    refine ⟨vs.toArray, ?_, h2⟩
    rw [Array.mapM_eq_mapM_toList, Sem.run_map, h1]
    rfl
  unfold A6M at h
  split at h
  · rename_i d he hd
    refine ⟨he, ?_⟩
    obtain ⟨vs, h1, h2⟩ := run hd
    have hs : vs.size = 1 := by simpa using h2.1
    have h3 := h2.2 0 (by simp)
    have h4 : vs.getD 0 undef = vs[0] := by simp [Array.getD, hs]
    rw [h4] at h3
    obtain ⟨t, k1, k2⟩ := AGM hr h3 h
    refine ⟨vs[0], t, ?_, k1, k2⟩
    rw [hU, Sem.run_bind, h1]
    simp [hs]
  · rename_i ds hne he hds
    refine ⟨he, ?_⟩
    obtain ⟨vs, h1, h2⟩ := run hds
    have hs : ¬ vs.size = 1 := by
      intro hs
      rw [h2.1] at hs
      obtain ⟨d, rfl⟩ := List.length_eq_one_iff.1 hs
      exact hne d rfl
    obtain ⟨ts, k1, k2⟩ := YB hr (vs := vs.toList) (by simpa using h2) h
    refine ⟨.tuple vs, .cC ts, ?_, k1, .cC ts vs (by simpa using k2.1) (by simpa using k2.2)⟩
    rw [hU, Sem.run_bind, h1]
    simp [hs]
  · exact h.elim
theorem YA (hE : aR P E) (hm : P.follows .mixedOrders = true) (hn : cM P = true) (hh : fU E) (k : Nat) {f : FuncId} {g : List T → Option T} (hex : ∃ fn c, P.funcs[f]? = some fn ∧ fn.body = some c)
    (h : ∀ args r, g args = some r → (∀ t ∈ args, Bd t) → tW bZ P E Hs k f args (fun x => x = r)) : jN P f g := by
  obtain ⟨fn, c, hf, hb⟩ := hex
  refine ⟨⟨fn, hf, tF hn hf, by simp [hb]⟩, fun w own args vs r hG hown ha hg => ?_⟩
  have hbd : ∀ t ∈ args, Bd t := by
    intro t ht
    obtain ⟨i, hi, rfl⟩ := List.mem_iff_getElem.1 ht
    exact (ha.2 i hi).bd
  have hs := h args r hg hbd
  simp only [tW, hf, hb] at hs
  split at hs
  · rename_i c' he hlen
    cases he
    have hlen : args.length ≤ fn.ntmps := of_decide_eq_true hlen
    let cx : Cx := RH P own w
    refine calls_of_wp hf hb ?_
    refine wp_mono (CT hE hm hh (zU hE hm hn hh k) c cx rfl _ (st0 args) hs _ _ w (TV (P := P) (nt := fn.ntmps) hG hown ha hlen)) ?_
    rintro e a' w' ⟨st', ρ', hr', hq, _⟩
    obtain ⟨he, v, t, h1, rfl, h2⟩ := AWO hr' hq
    rcases qH he with rfl | rfl
    · exact ⟨hr'.defers, v, h1, v, rfl, h2, hr'.inv.below⟩
    · exact ⟨hr'.defers, v, h1, v, rfl, h2, hr'.inv.below⟩
  · exact hs.elim
theorem EI (hE : aR P E) (hm : P.follows .mixedOrders = true) (hn : cM P = true) (hh : fU E) (k : Nat) {f : FuncId} {g : List T → Option T} (hex : ∃ fn c, P.funcs[f]? = some fn ∧ fn.body = some c)
    (h : ∀ args r, g args = some r → (∀ t ∈ args, Bd t) → dS bZ P E Hs k f args (fun x => x = r)) : aN P f g := by
  obtain ⟨fn, c, hf, hb⟩ := hex
  refine ⟨⟨fn, hf, tF hn hf, by simp [hb]⟩, fun w own args vs r hG hown ha hg => ?_⟩
  have hbd : ∀ t ∈ args, Bd t := by
    intro t ht
    obtain ⟨i, hi, rfl⟩ := List.mem_iff_getElem.1 ht
    exact (ha.2 i hi).bd
  have hs := h args r hg hbd
  simp only [dS, hf, hb] at hs
  split at hs
  · rename_i c' he hlen
    cases he
    have hlen : args.length ≤ fn.ntmps := of_decide_eq_true hlen
    let cx : Cx := RH P own w
    refine calls_of_wp hf hb ?_
    refine wp_mono (CT hE hm hh (zU hE hm hn hh k) c cx rfl _ (st0 args) hs _ _ w (TV (P := P) (nt := fn.ntmps) hG hown ha hlen)) ?_
    rintro e a' w' ⟨st', ρ', hr', hq, _⟩
    unfold A9M at hq
    split at hq
    · rename_i r' he hres
      subst hq
      obtain ⟨v, h1, h2⟩ := AVR hr' hres
      rcases qH he with rfl | rfl
      · exact ⟨hr'.defers, v, h1, v, rfl, h2, hr'.inv.below⟩
      · exact ⟨hr'.defers, v, h1, v, rfl, h2, hr'.inv.below⟩
    · exact hq.elim
  · exact hs.elim
theorem KI (hE : aR P E) (hm : P.follows .mixedOrders = true) (hn : cM P = true) (hh : fU E) (k : Nat) {f : FuncId} {g : List T → Option (List (List T))} (hex : ∃ fn c, P.funcs[f]? = some fn ∧ fn.body = some c)
    (h : ∀ args r, g args = some r → (∀ t ∈ args, Bd t) → MY bZ P E Hs k f args (fun x => x = r)) : eE P f g := by
  obtain ⟨fn, c, hf, hb⟩ := hex
  refine ⟨⟨fn, hf, tF hn hf, by simp [hb]⟩, fun w own args vs r hG hown ha hg => ?_⟩
  have hbd : ∀ t ∈ args, Bd t := by
    intro t ht
    obtain ⟨i, hi, rfl⟩ := List.mem_iff_getElem.1 ht
    exact (ha.2 i hi).bd
  have hs := h args r hg hbd
  simp only [MY, hf, hb] at hs
  split at hs
  · rename_i c' he hlen
    cases he
    have hlen : args.length ≤ fn.ntmps := of_decide_eq_true hlen
    let cx : Cx := RH P own w
    refine calls_of_wp hf hb ?_
    refine wp_mono (CT hE hm hh (zU hE hm hn hh k) c cx rfl _ (st0 args) hs _ _ w (TV (P := P) (nt := fn.ntmps) hG hown ha hlen)) ?_
    rintro e a' w' ⟨st', ρ', hr', hq, _⟩
    unfold A9L at hq
    split at hq
    · rename_i r' he hres
      subst hq
      obtain ⟨v, h1, h2, h3⟩ := AVS hr' hres
      rcases qH he with rfl | rfl
      · exact ⟨hr'.defers, v, h1, v, rfl, hr'.inv.below, h2, h3⟩
      · exact ⟨hr'.defers, v, h1, v, rfl, hr'.inv.below, h2, h3⟩
    · exact hq.elim
  · exact hs.elim
def AGO : Fn → Bool
  | .heap _ => false
  | _ => true
theorem aL : ∀ {l : List (FuncId × Fn)}, l.all (fun x => AGO x.2) = true → fU (Env.of l)
  | [], _, f, g, h => by simp [Env.of] at h
  | (k, x) :: l, hl, f, g, h => by
    simp only [List.all_cons, Bool.and_eq_true] at hl
    simp only [Env.of] at h
    split at h
    · cases h; simp [AGO] at hl
    · exact aL hl.2 f g h
end
end Go.Pv
