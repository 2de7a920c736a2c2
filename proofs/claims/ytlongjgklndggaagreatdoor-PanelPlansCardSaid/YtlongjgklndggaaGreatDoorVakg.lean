/-
  The symbolic executor, part g: code, and functions.
-/
import Derived.Test.YtlongjgklndggaaGreatDoorVakf
set_option linter.defProp false
set_option linter.unusedSimpArgs false
namespace Go.Pv
open Go Go.RowKit
inductive LH where
  | none
  | inv (its : List It)
  | alt (a b : List It)
  | HV (n : Nat)
  | alts (l : List (List It))
structure Hint where
  loop : Nat → LH
  join : Nat → Nat → Option (List It)
  WR : Nat → V3
def bK : Hint := ⟨fun _ => .none, fun _ _ => none, fun _ => none⟩
def kG : Code → Option Nat
  | .region id _ _ => some id
  | .seq a b => match kG a with
    | some i => some i
    | none => kG b
  | .cond _ a b => match kG a with
    | some i => some i
    | none => kG b
  | .block _ b => kG b
  | .scope b => kG b
  | .loop b => kG b
  | _ => none
def sD : Code → Option Nat
  | .region id _ _ => some id
  | .seq a b => match sD b with
    | some i => some i
    | none => sD a
  | .cond _ a b => match sD b with
    | some i => some i
    | none => sD a
  | .block _ b => sD b
  | .scope b => sD b
  | .loop b => sD b
  | _ => none
def C2 (i : Nat) : List Oper → Bool
  | [] => false
  | o :: l => (match o.dst with
    | some t => t == i
    | none => false) || C2 i l
def xA : Code → Nat → Bool
  | .region _ ops _, i => C2 i ops.toList
  | .seq a b, i => xA a i || xA b i
  | .cond _ a b, i => xA a i || xA b i
  | .block _ b, i => xA b i
  | .scope b, i => xA b i
  | .loop b, i => xA b i
  | _, _ => false
def ends (t : Option Nat) : Code → Bool
  | .skip => t.isNone
  | .label _ => t.isNone
  | .region _ _ _ => t.isNone
  | .seq a b => (ends none a && ends t b) || (t.isSome && ends t a)
  | .cond _ a b => ends t a || ends t b
  | .block id b => match t with
    | none => ends none b || ends (some id) b
    | some j => ends (some j) b
  | .loop b => t.isSome && ends t b
  | .scope b => ends t b
  | .exit id => match t with
    | none => false
    | some j => j == id
  | _ => false
def c0 (t : Option Nat) : Code → Nat → Bool
  | .region _ ops _, i => C2 i ops.toList
  | .seq a b, i => (ends none a && ends t b && (c0 none a i || c0 t b i)) || (t.isSome && ends t a && c0 t a i)
  | .cond _ a b, i => (ends t a && c0 t a i) || (ends t b && c0 t b i)
  | .block id b, i => match t with
    | none => (ends none b && c0 none b i) || (ends (some id) b && c0 (some id) b i)
    | some j => c0 (some j) b i
  | .loop b, i => (ends none b && c0 none b i) || c0 t b i
  | .scope b, i => c0 t b i
  | _, _ => false
def gK (c : Code) : Exit → Nat → Bool
  | .normal => c0 none c
  | .exit id => c0 (some id) c
  | _ => xA c
def dW (c : Code) : Exit → Bool
  | .normal => ends none c
  | .exit id => ends (some id) c
  | _ => true
theorem uP : ∀ {l : List Oper} {o : Oper} {t : Tmp}, o ∈ l → o.dst = some t → C2 t l = true
  | [], _, _, h, _ => by cases h
  | a :: l, o, t, h, ht => by
    simp only [C2, Bool.or_eq_true]
    rcases List.mem_cons.1 h with rfl | h
    · exact .inl (by simp [ht])
    · exact .inr (uP h ht)
def UX (H : Hint) (a : Code) : Option (List It) := match kG a, sD a with
  | some i, some j => H.join i j
  | _, _ => none
def fits (st : St) : List It → Bool
  | [] => true
  | .arr k _ _ :: l => (match st.σ k with
    | some (.arr _ _ _) => true
    | _ => false) && fits st l
  | .own t _ _ :: l => (match st.s t with
    | .own _ => true
    | .p t => (match cG t with
      | some (true, []) => true
      | _ => false)
    | _ => false) && fits st l
  | .box k _ :: l => (match st.σ k with
    | some (.rows _ _) => true
    | _ => false) && fits st l
  | .map k _ _ _ :: l => (match st.σ k with
    | some (.map _ _) => true
    | _ => false) && fits st l
  | .cB k :: l => (match st.σ k with
    | some (.cB _ _ _ _) => true
    | _ => false) && fits st l
  | _ :: l => fits st l
def U7 (h : LH) (st : St) : Option (List It) := match h with
  | .inv its => some its
  | .alt a b => match fits st a with
    | true => some a
    | false => some b
  | .alts l => l.find? fun its => fits st its
  | _ => none
def UZ (H : Hint) (b : Code) : LH := match kG b with
  | some i => H.loop i
  | none => .none
section
variable (C : dY) (P : Program) (E : Env) (I : T5) (H : Hint) (nt : Nat)
def TK (ops : List Oper) (st : St) : Nat → Operand → Option Nat
  | 0, _ => none
  | f + 1, x => match ev (aT true st.s) x with
    | .ptr k _ _ => some k
    | _ => match x with
      | .tmp t => match ops.find? (fun o => o.dst == some t) with
        | some o => match o.op with
          | .fieldAddr _ a _ => TK ops st f a
          | _ => none
        | none => none
      | _ => none
def XY (ops : Array Oper) (st : St) : Option Nat := ops.toList.foldl (fun m o => match o.op with
  | .store _ a _ => match TK ops.toList st 6 a, m with
    | some k, some m => some (min k m)
    | _, _ => none
  | _ => m) (some st.n)
def OA (E : Env) (ops : Array Oper) : Option Nat := ((List.range ops.size).filter fun i => match ops[i]? with
  | some o => match o.op with
    | .call c => match c.callee with
      | .value (.tmp _) => true
      | .value (.func f) => (E f).isNone
      | _ => false
    | _ => false
  | none => false).getLast?
def TL (E : Env) (ops : Array Oper) : Option Nat := match OA E ops with
  | some t => match A7 E ops t with
    | true => some t
    | false => none
  | none => none
def W9 (id : Nat) (ops : Array Oper) (draw : Bool) (st : St) (K : St → Prop) : Prop :=
  match draw with
  | false => NO C P E nt I (H.WR id) false ops ops.toList st K
  | true => match TL E ops with
   | some t => lF false C P E nt ops st.n (List.range t) (cD ops st) fun st1 => NO C P E nt I none false ops (ops.toList.drop t) st1 K
   | none => match jD E ops with
    | true => NO C P E nt I none true ops ops.toList st K
    | false => match jL false E ops with
      | true => lF false C P E nt ops st.n (oS false E ops) (cD ops st) K
      | false => match (jL true E ops && SE ops) && !(E.marked 9000000000), XY ops st with
       | true, some base => match Nat.ble base st.n with
        | true => lF true C P E nt ops base (oS true E ops) (cD ops st) K
        | false => C.bad 510
       | _, _ => match Nat.ble ops.size 7 with
        | true => anyS C P E nt ops K ops.size (Array.replicate ops.size false) st
        | false => match K8 false E ops with
          | true => uB false C P E nt ops st.n (lC ops.toList []) K ops.size (Array.replicate ops.size false) (cD ops st)
          | false => C.bad 501
def J5 (its : List It) (st₀ : St) (X : pT.den its → Prop) (Q : Exit → St → Prop) : Exit → St → Prop
  | .normal, st => match sI its st₀ st with
    | true => NR C st₀ st its X
    | false => C.bad 502
  | e, st => Q e (B6 its st₀ st)
def YG (F : (Exit → St → Prop) → St → Prop) (Q : Exit → St → Prop) : Nat → St → Prop
  | 0, _ => C.bad 503
  | n + 1, st => F (fun e st' => match e with
    | .normal => YG F Q n st'
    | e => Q e st') st
def R5 (c : Operand) (b : Bool) (st : St) : St := match c with
  | .tmp t => match st.s t with
    | .p (.v (.bool _)) => ⟨aS st.s t (.p (.v (.bool b))), st.σ, st.n⟩
    | _ => st
  | _ => st
def sx : Code → (Exit → St → Prop) → St → Prop
  | .skip, Q, st => Q .normal st
  | .label _, Q, st => Q .normal st
  | .region id ops draw, Q, st => W9 C P E I H nt id ops draw st (Q .normal)
  | .seq a b, Q, st => match UX H a with
    | none => sx a (EX (sx b Q) Q) st
    | some its => C.join (pT.den its) (fun X => sx a (J5 C its st X Q) (xH its st)) fun y => sx b Q (B6 its st (nU its (c0 none a) st y))
  | .cond c t e, Q, st => match ev (aT true st.s) c with
    | .p (.v (.bool b)) => aB b (sx t Q (R5 c true st)) (sx e Q (R5 c false st))
    | _ => C.bad 504
  | .block id b, Q, st => sx b (pW id Q) st
  | .loop b, Q, st => match UZ H b with
    | .HV n => YG C (sx b) Q n st
    | h => match U7 h st with
      | some its => match sI its st (xH its st) && ends none b with
        | true => NR C st (xH its st) its fun y => C.loop (pT.den its) (fun X y => sx b (J5 C its st X Q) (nU its (c0 none b) st y)) y
        | false => C.bad 505
      | none => C.bad 506
  | .exit id, Q, st => Q (.exit id) st
  | .ret, Q, st => Q .ret st
  | .scope b, Q, st => sx b (A0 Q) st
  | _, _, _ => C.bad 507
end
theorem IQ {c : Operand} {b : Bool} {st : St} (h : ev (aT true st.s) c = .p (.v (.bool b))) : R5 c b st = st := by
  unfold R5
  split
  · rename_i t
    split
    · rename_i b' hb
      have : b' = b := by
        simp only [ev, aT, hb, strip] at h
        cases h; rfl
      subst this
      have : aS st.s t (.p (.v (.bool b'))) = st.s := by
        funext i
        by_cases e : i = t
        · subst e; rw [gI, hb]
        · rw [aG _ _ e]
      rw [this]
    · rfl
  · rfl
def oO (P : Program) (b : Code) (Q : Exit → Act → World → Prop) (a : Act) (w : World) : Prop :=
  ∀ (fb : Frame) (k : List Item) (cs : List Frame), ∃ e a' w', Q e a' w' ∧ Arrives P (lone (fb.at a (.code b :: .inLoop b :: k)) cs w) fb k cs e a' w'
theorem oO.wp {P : Program} {b : Code} {Q : Exit → Act → World → Prop} {a : Act} {w : World} (h : oO P b Q a w) : (Code.loop b).wp P Q a w := by
  intro fb k cs
  obtain ⟨e, a', w', hq, harr⟩ := h fb k cs
  exact ⟨e, a', w', hq, .of_steps (.one step_loop) harr⟩
theorem oO.round {P : Program} {b : Code} {Q : Exit → Act → World → Prop} {a : Act} {w : World} (h : b.wp P (fun e a w => match e with
    | .normal => oO P b Q a w
    | e => Q e a w) a w) : oO P b Q a w := by
  intro fb k cs
  obtain ⟨e, a₁, w₁, hq, harr⟩ := h fb (.inLoop b :: k) cs
  cases e with
  | normal =>
    obtain ⟨e₂, a₂, w₂, hq₂, harr₂⟩ := hq fb k cs
    exact ⟨e₂, a₂, w₂, hq₂, .of_steps (Steps.trans harr (.one step_inLoop)) harr₂⟩
  | exit id => exact ⟨_, a₁, w₁, hq, .pass (x := .inLoop b) rfl (fun _ _ => .inl (by simp)) harr⟩
  | goto l => exact ⟨_, a₁, w₁, hq, .pass (x := .inLoop b) rfl (fun _ _ => .inl (by simp)) harr⟩
  | ret => exact ⟨_, a₁, w₁, hq, .pass (x := .inLoop b) rfl (fun _ _ => .inl (by simp)) harr⟩
  | panic ch => exact ⟨_, a₁, w₁, hq, .pass (x := .inLoop b) rfl (fun _ _ => .inl (by simp)) harr⟩
  | outgrown => exact ⟨_, a₁, w₁, hq, .pass (x := .inLoop b) rfl (fun _ _ => .inl (by simp)) harr⟩
section
variable {P : Program} {E : Env} {I : T5} {H : Hint} {nt : Nat}
theorem Fr.TD {its : List It} {A B D : Nat → Bool} {st₀ st : St} {y : pT.den its} (h : Fr B (nU its A st₀ y) st) (hD : ∀ i, D i = false → A i = false ∧ B i = false) : Fr D st₀ (B6 its st₀ st) ∧ ∀ k x, kept its st₀ k = true → st₀.σ k = some x → st.σ k = some (lock x) := by
  have hk : ∀ k x, kept its st₀ k = true → st₀.σ k = some x → st.σ k = some (lock x) := by
    intro k x hke hx
    obtain ⟨hlt, x0, h0, h1, _⟩ := eU hke
    rw [hx] at h0; cases h0
    exact h.b.2 k (lock x) (by show k < st₀.n + lH its; omega) (by simp only [nU, decide_eq_true hlt, hke, hx, Option.map_some]) h1
  refine ⟨⟨fun i hi => ?_, ?_, fun k x hlt hx hw => ?_⟩, hk⟩
  · obtain ⟨h1, h2⟩ := hD i hi
    have := h.s i h2
    simp only [nU, h1] at this
    exact this
  · have := h.b.1
    simp only [nU] at this
    show st₀.n ≤ st.n
    omega
  · have hke := o8 (its := its) hlt hx hw
    simp only [B6, hke, hx]
theorem Fr.W7 {its : List It} {A : Nat → Bool} {st₀ st : St} (h : Fr A (xH its st₀) st) : Fr A st₀ (B6 its st₀ st) ∧ ∀ k x, kept its st₀ k = true → st₀.σ k = some x → st.σ k = some (lock x) := by
  have hk : ∀ k x, kept its st₀ k = true → st₀.σ k = some x → st.σ k = some (lock x) := by
    intro k x hke hx
    obtain ⟨hlt, x0, h0, h1, _⟩ := eU hke
    rw [hx] at h0; cases h0
    exact h.b.2 k (lock x) hlt (by simp only [xH, hke, hx, Option.map_some]) h1
  refine ⟨⟨fun i hi => h.s i hi, h.b.1, fun k x hlt hx hw => ?_⟩, hk⟩
  have hke := o8 (its := its) hlt hx hw
  simp only [B6, hke, hx]
theorem RU {its : List It} {A : Nat → Bool} {st₀ : St} {y : pT.den its} : Fr A st₀ (B6 its st₀ (nU its A st₀ y)) := by
  refine ⟨fun i hi => ?_, ?_, fun k x hlt hx hw => ?_⟩
  · simp only [B6, nU, hi]
  · show st₀.n ≤ st₀.n + lH its
    omega
  · have hke := o8 (its := its) hlt hx hw
    simp only [B6, hke, hx]
theorem R0 {its : List It} {A : Nat → Bool} {st₀ : St} {y : pT.den its} : ∀ k x, kept its st₀ k = true → st₀.σ k = some x → (nU its A st₀ y).σ k = some (lock x) := by
  intro k x hke hx
  obtain ⟨hlt, _⟩ := eU hke
  simp only [nU, decide_eq_true hlt, hke, hx, Option.map_some]
theorem R6 {its : List It} {st₀ : St} : ∀ k x, kept its st₀ k = true → st₀.σ k = some x → (xH its st₀).σ k = some (lock x) := by
  intro k x hke hx
  simp only [xH, hke, hx, Option.map_some]
theorem FT {cx : Cx} {its : List It} {A : Nat → Bool} {st₀ st : St} {y : pT.den its} {ρ₀ ρ : Nat → Option Loc} {a₀ a : Act} {w₀ w : World} (hR0 : Rel cx nt ρ₀ st₀ a₀ w₀) (hR : Rel (s5 cx its st₀ ρ₀ w₀) nt ρ st a w) (hs : ∀ i, A i = false → st.s i = st₀.s i)
    (hk : ∀ k x, kept its st₀ k = true → st₀.σ k = some x → st.σ k = some (lock x)) (hok : sI its st₀ st = true) (hy : HY st₀.n st₀ st its y) : ∃ ρ', Rel (s5 cx its st₀ ρ₀ w₀) nt ρ' (nU its A st₀ y) a w := by
  have hdom : ∀ k l, ρ₀ k = some l → k < st₀.n := fun k l hl => (hR0.inv.new k l hl).1
  refine Q5 hR (fun i _ => (hR0.fH i).WE hdom) (fun k x hx => ?_) hdom (fun k x hx hw => ?_) hs hk hok hy
  · obtain ⟨l, _, hb⟩ := hR0.inv.boxes k x hx
    exact hb.WE hdom
  · change (xH its st₀).σ k = some x at hx
    cases hke : kept its st₀ k with
    | true => rfl
    | false =>
      simp only [xH, hke] at hx
      obtain ⟨l, hl, _⟩ := hR0.inv.boxes k x hx
      rw [o8 (hdom k l hl) hx hw] at hke
      cases hke
theorem v7 {its : List It} {st₀ st : St} (h : sI its st₀ st = true) : tA st₀.n its = true := by
  unfold sI at h
  rw [Bool.and_eq_true] at h
  exact h.2
theorem r6 {its : List It} {st₀ st : St} {X : pT.den its → Prop} {Q : Exit → St → Prop} (h : J5 bP its st₀ X Q .normal st) : sI its st₀ st = true ∧ ∃ y, X y ∧ HY st₀.n st₀ st its y := by
  simp only [J5] at h
  split at h
  · rename_i hok
    exact ⟨hok, uX (v7 hok) h⟩
  · exact h.elim
theorem uU {its : List It} {st₀ st : St} {X : pT.den its → Prop} {Q : Exit → St → Prop} {e : Exit} (he : e ≠ .normal) (h : J5 bP its st₀ X Q e st) : Q e (B6 its st₀ st) := by
  cases e <;> first | exact h | exact absurd rfl he
theorem CJ {t : Option Nat} : ∀ {c : Code} {i : Nat}, xA c i = false → c0 t c i = false := by
  intro c
  induction c generalizing t with
  | seq a b iha ihb =>
    intro i h
    simp only [xA, Bool.or_eq_false_iff] at h
    simp only [c0, iha (t := none) h.1, iha (t := t) h.1, ihb (t := t) h.2, Bool.or_false, Bool.and_false]
  | cond c a b iha ihb =>
    intro i h
    simp only [xA, Bool.or_eq_false_iff] at h
    simp only [c0, iha (t := t) h.1, ihb (t := t) h.2, Bool.or_false, Bool.and_false]
  | block id b ih =>
    intro i h
    simp only [xA] at h
    cases t with
    | none => simp only [c0, ih (t := none) h, ih (t := some id) h, Bool.and_false, Bool.or_false]
    | some j => simp only [c0, ih (t := some j) h]
  | loop b ih =>
    intro i h
    simp only [xA] at h
    simp only [c0, ih (t := none) h, ih (t := t) h, Bool.and_false, Bool.or_false]
  | region id ops draw => intro i h; exact h
  | scope b ih =>
    intro i h
    simp only [xA] at h
    simp only [c0, ih (t := t) h]
  | _ => intro i h; rfl
structure EZ (c : Code) (e : Exit) (st st' : St) : Prop where
  fr : Fr (gK c e) st st'
  ok : dW c e = true
theorem mI (hE : aM P E) (hm : P.follows .mixedOrders = true) (hh : cS E) (hI : FQ P I) : ∀ (c : Code) (cx : Cx), cx.P = P → ∀ (Q : Exit → St → Prop) (st : St), sx bP P E I H nt c Q st → AW cx nt c (fun e st' => Q e st' ∧ EZ c e st st') st := by
  intro c
  induction c with
  | skip => exact fun cx hP Q st h ρ a w hr => wp_skip ⟨st, ρ, hr, h, Fr.refl _ _, rfl⟩
  | label l => exact fun cx hP Q st h ρ a w hr => wp_label ⟨st, ρ, hr, h, Fr.refl _ _, rfl⟩
  | region id ops draw =>
    intro cx hP Q st h
    subst hP
    have hA : ∀ o ∈ ops.toList, ∀ t, o.dst = some t → gK (.region id ops draw) .normal t = true := fun o ho t ht => uP ho ht
    simp only [sx, W9] at h
    split at h
    · intro ρ a w hr
      refine wp_region ?_
      have := lP (Q := jI cx nt fun e st' => Q e st' ∧ EZ (.region id ops false) e st st') hE hh hI (fun st' ρ a w hr' hf hk => ⟨st', ρ, hr', hk, hf, rfl⟩) ops.toList 0 st ρ a w (by simp) hA (Fr.refl _ _) hr h
      rw [List.range_eq_range']
      simpa using this
    · split at h
      · rename_i t htail
        have hT : A7 E ops t = true := by
          unfold TL at htail
          split at htail
          · split at htail
            · cases htail; assumption
            · cases htail
          · cases htail
        obtain ⟨st1, h1, h2, h3⟩ := oX hh hA (List.range t) (cD ops st) (Fr.refl _ _) h
        have hroom : Fr (gK (.region id ops true) .normal) st (cD ops st) := ⟨fun _ _ => rfl, jH.same (n' := (cD ops st).n) (Nat.le_add_right _ _)⟩
        refine L1 hE hm hT h1 fun ρ a w hr => ?_
        have := lP (Q := jI cx nt fun e st' => Q e st' ∧ EZ (.region id ops true) e st st') hE hh hI (fun st' ρ a w hr' hf hk => ⟨st', ρ, hr', hk, hf, rfl⟩) (ops.toList.drop t) t st1 ρ a w (fun j => by simp) (fun o ho => hA o (List.mem_of_mem_drop ho)) (hroom.trans h2) hr h3
        simpa using this
      split at h
      · rename_i hord
        obtain ⟨st', h1, h2, h3⟩ := NP hh ops.toList st hA (Fr.refl _ _) h
        exact HW hE hm hord h1 ⟨h3, h2, rfl⟩
      · split at h
        · rename_i hord
          obtain ⟨st', h1, h2, h3⟩ := oX hh hA (oS false E ops) (cD ops st) (Fr.refl _ _) h
          have hroom : Fr (gK (.region id ops true) .normal) st (cD ops st) := ⟨fun _ _ => rfl, jH.same (n' := (cD ops st).n) (Nat.le_add_right _ _)⟩
          exact B8 hE hm hord h1 ⟨h3, hroom.trans h2, rfl⟩
        · split at h
          · rename_i hord hlow
            split at h
            · rename_i hle
              obtain ⟨st', h1, h2, h3⟩ := oX hh hA (oS true E ops) (cD ops st) (Fr.refl _ _) h
              have hroom : Fr (gK (.region id ops true) .normal) st (cD ops st) := ⟨fun _ _ => rfl, jH.same (n' := (cD ops st).n) (Nat.le_add_right _ _)⟩
              rw [Bool.and_eq_true, Bool.and_eq_true] at hord
              exact L0 hE hm (Nat.le_of_ble_eq_true hle) hord.1.2 hord.1.1 h1 ⟨h3, hroom.trans h2, rfl⟩
            · exact h.elim
          split at h
          · refine TO hE hm ?_
            have := CE hh hA ops.size (Array.replicate ops.size false) st (Fr.refl _ _) h
            exact xT (fun s hs => ⟨hs.2, hs.1, rfl⟩) this
          split at h
          · rename_i hmx
            have hroom : Fr (gK (.region id ops true) .normal) st (cD ops st) := ⟨fun _ _ => rfl, jH.same (n' := (cD ops st).n) (Nat.le_add_right _ _)⟩
            have := xV (ms := lC ops.toList []) (fun j i hb => eW ops.toList [] (by simp) (fun j i hb => by simp at hb) j i hb) hh hA ops.size (Array.replicate ops.size false) (cD ops st)
              (fun m o _ hm' => by simp [Array.getElem?_replicate] at hm'; split at hm' <;> simp at hm') (Nat.le_add_right _ _) (Fr.refl _ _) h
            exact LZ hE hm hmx (xU (fun s hs => ⟨hs.2, hroom.trans hs.1, rfl⟩) this)
          · exact h.elim
  | seq a b iha ihb =>
    intro cx hP Q st h
    have fab : ∀ {e : Exit} {st st1 st2 : St}, Fr (c0 none a) st st1 → ends none a = true → EZ b e st1 st2 → EZ (.seq a b) e st st2 := by
      intro e st st1 st2 h1 h2 h3
      have hends : dW (.seq a b) e = true := by
        have := h3.ok
        cases e <;> simp only [dW, ends] at this ⊢ <;> simp [h2, this]
      have hi : ∀ i, gK (.seq a b) e i = false → c0 none a i = false ∧ gK b e i = false := by
        intro i hi
        have h4 := h3.ok
        cases e <;> simp only [dW, gK, c0, xA] at hi h4 ⊢ <;> simp only [h2, h4, Bool.true_and, Bool.or_eq_false_iff] at hi <;> first | exact hi.1 | exact ⟨CJ hi.1, hi.2⟩
      exact ⟨(h1.mono fun i h => (hi i h).1).trans (h3.fr.mono fun i h => (hi i h).2), hends⟩
    have fa : ∀ {e : Exit} {st st1 : St}, e ≠ .normal → dW a e = true → Fr (gK a e) st st1 → EZ (.seq a b) e st st1 := by
      intro e st st1 hne h2 h1
      refine ⟨h1.mono fun i hi => ?_, ?_⟩
      · cases e <;> simp only [dW, gK, c0, xA] at hi h2 ⊢
        · exact absurd rfl hne
        · simp only [h2, Option.isSome_some, Bool.true_and, Bool.or_eq_false_iff] at hi; exact hi.2
        all_goals (simp only [Bool.or_eq_false_iff] at hi; exact hi.1)
      · cases e <;> simp only [dW, ends] at h2 ⊢
        · exact absurd rfl hne
        · simp [h2]
    simp only [sx] at h
    split at h
    · intro ρ act w hr
      refine wp_seq (wp_mono (iha cx hP _ st h ρ act w hr) ?_)
      rintro e a' w' ⟨st', ρ', hr', hq, hf⟩
      by_cases he : e = .normal
      · subst he
        refine wp_mono (ihb cx hP Q st' hq ρ' a' w' hr') ?_
        rintro e2 a2 w2 ⟨st2, ρ2, hr2, hq2, hf2⟩
        exact ⟨st2, ρ2, hr2, hq2, fab hf.fr hf.ok hf2⟩
      · have hp : jI cx nt (fun e st' => Q e st' ∧ EZ (.seq a b) e st st') e a' w' := ⟨st', ρ', hr', by cases e <;> first | exact absurd rfl he | exact hq, fa he hf.ok hf.fr⟩
        cases e <;> first | exact absurd rfl he | exact hp
    · rename_i its hj
      intro ρ act w hr
      have h : sx bP P E I H nt a (J5 bP its st (fun y => sx bP P E I H nt b Q (B6 its st (nU its (c0 none a) st y))) Q) (xH its st) := h
      refine wp_seq ?_
      have h1 := iha (s5 cx its st ρ w) hP _ _ h ρ act w (OG hr)
      refine wp_mono h1 ?_
      rintro e a' w' ⟨st', ρ', hr', hq, hf⟩
      obtain ⟨hf1, hk⟩ := hf.fr.W7
      by_cases he : e = .normal
      · subst he
        obtain ⟨hok, y, hX, hy⟩ := r6 hq
        obtain ⟨ρ2, hr2⟩ := FT (A := c0 none a) hr hr' (fun i hi => hf.fr.s i hi) hk hok hy
        have hr3 := HU hr hr2 R0
        refine wp_mono (ihb cx hP Q _ hX ρ2 a' w' hr3) ?_
        rintro e2 a2 w2 ⟨st2, ρ2, hr2, hq2, hf2⟩
        exact ⟨st2, ρ2, hr2, hq2, fab RU hf.ok hf2⟩
      · have := uU he hq
        have hp : jI cx nt (fun e st' => Q e st' ∧ EZ (.seq a b) e st st') e a' w' := ⟨_, ρ', HU hr hr' hk, this, fa he hf.ok hf1⟩
        cases e <;> first | exact absurd rfl he | exact hp
  | cond c t e iht ihe =>
    intro cx hP Q st h ρ a w hr
    simp only [sx] at h
    split at h
    · rename_i b hb
      have hev := hr.IF c
      rw [hb] at hev
      have hval : a.eval c = .bool b := by
        generalize a.eval c = q at hev ⊢
        cases hev with
        | p _ _ h => cases h; rfl
      refine wp_cond hval ?_
      rw [gB] at h
      have f1 : ∀ {x : Exit} {st st1 : St}, EZ t x st st1 → EZ (.cond c t e) x st st1 := by
        intro x st st1 hf
        have h2 := hf.ok
        refine ⟨hf.fr.mono fun i hi => ?_, ?_⟩
        · cases x <;> simp only [dW, gK, c0, xA] at hi h2 ⊢ <;> simp only [h2, Bool.true_and, Bool.or_eq_false_iff] at hi <;> exact hi.1
        · cases x <;> simp only [dW, ends] at h2 ⊢ <;> simp [h2]
      have f2 : ∀ {x : Exit} {st st1 : St}, EZ e x st st1 → EZ (.cond c t e) x st st1 := by
        intro x st st1 hf
        have h2 := hf.ok
        refine ⟨hf.fr.mono fun i hi => ?_, ?_⟩
        · cases x <;> simp only [dW, gK, c0, xA] at hi h2 ⊢ <;> simp only [h2, Bool.true_and, Bool.or_eq_false_iff] at hi <;> exact hi.2
        · cases x <;> simp only [dW, ends] at h2 ⊢ <;> simp [h2]
      cases b with
      | true =>
        rw [if_pos rfl]
        refine wp_mono (iht cx hP Q st (by have := h.1 rfl; rwa [IQ hb] at this) ρ a w hr) ?_
        rintro e a' w' ⟨st', ρ', hr', hq, hf⟩
        exact ⟨st', ρ', hr', hq, f1 hf⟩
      | false =>
        rw [if_neg (by simp)]
        refine wp_mono (ihe cx hP Q st (by have := h.2 rfl; rwa [IQ hb] at this) ρ a w hr) ?_
        rintro e a' w' ⟨st', ρ', hr', hq, hf⟩
        exact ⟨st', ρ', hr', hq, f2 hf⟩
    · exact h.elim
  | block id b ih =>
    intro cx hP Q st h ρ a w hr
    refine wp_block (wp_mono (ih cx hP _ st h ρ a w hr) ?_)
    rintro e a' w' ⟨st', ρ', hr', hq, hf⟩
    have h2 := hf.ok
    cases e with
    | exit id' =>
      simp only [pW] at hq
      simp only [Exit.inBlock]
      split at hq
      · rename_i e
        rw [if_pos e]
        subst e
        refine ⟨st', ρ', hr', hq, hf.fr.mono fun i hi => ?_, ?_⟩
        · simp only [dW, gK, c0] at hi h2 ⊢
          simp only [h2, Bool.true_and, Bool.or_eq_false_iff] at hi; exact hi.2
        · simp only [dW, ends] at h2 ⊢; simp [h2]
      · rename_i e
        rw [if_neg e]
        exact ⟨st', ρ', hr', hq, hf.fr.mono fun i hi => by simpa only [gK, c0] using hi, by simpa only [dW, ends] using h2⟩
    | normal =>
      refine ⟨st', ρ', hr', hq, hf.fr.mono fun i hi => ?_, ?_⟩
      · simp only [dW, gK, c0] at hi h2 ⊢
        simp only [h2, Bool.true_and, Bool.or_eq_false_iff] at hi; exact hi.1
      · simp only [dW, ends] at h2 ⊢; simp [h2]
    | _ => exact ⟨st', ρ', hr', hq, hf.fr.mono fun i hi => by simpa only [gK, xA] using hi, rfl⟩
  | loop b ih =>
    intro cx hP Q st h ρ a w hr
    have fl : ∀ {e : Exit}, e ≠ .normal → dW b e = true → dW (.loop b) e = true ∧ ∀ i, gK (.loop b) e i = false → (ends none b = true → c0 none b i = false) ∧ gK b e i = false := by
      intro e hne h2
      refine ⟨?_, fun i hi => ?_⟩
      · cases e <;> simp only [dW, ends] at h2 ⊢
        · exact absurd rfl hne
        · simp [h2]
      · cases e <;> simp only [gK, c0, xA] at hi ⊢
        · exact absurd rfl hne
        · simp only [Bool.or_eq_false_iff] at hi
          exact ⟨fun h => by simpa [h] using hi.1, hi.2⟩
        all_goals exact ⟨fun _ => CJ hi, hi⟩
    simp only [sx] at h
    split at h
    · rename_i n hl
      have key : ∀ (n : Nat) (st1 : St) (ρ : Nat → Option Loc) (a : Act) (w : World), Rel cx nt ρ st1 a w → (st1 = st ∨ ends none b = true) → Fr (c0 none b) st st1 → YG bP (sx bP P E I H nt b) Q n st1 → oO cx.P b (jI cx nt fun e st' => Q e st' ∧ EZ (.loop b) e st st') a w := by
        intro n
        induction n with
        | zero => intro st1 ρ a w hr _ hf h; exact h.elim
        | succ n ihn =>
          intro st1 ρ a w hr hor hf h
          refine oO.round (wp_mono (ih cx hP _ st1 h ρ a w hr) ?_)
          rintro e a2 w2 ⟨st2, ρ2, hr2, hq2, hf2⟩
          by_cases he : e = .normal
          · subst he
            exact ihn st2 ρ2 a2 w2 hr2 (.inr hf2.ok) (hf.trans hf2.fr) hq2
          · obtain ⟨g1, g2⟩ := fl he hf2.ok
            have hq2' : Q e st2 := by cases e <;> first | exact absurd rfl he | exact hq2
            have hfr : Fr (gK (.loop b) e) st st2 := by
              rcases hor with rfl | hor
              · exact hf2.fr.mono fun i hi => (g2 i hi).2
              · exact (hf.mono fun i hi => (g2 i hi).1 hor).trans (hf2.fr.mono fun i hi => (g2 i hi).2)
            have hp : jI cx nt (fun e st' => Q e st' ∧ EZ (.loop b) e st st') e a2 w2 := ⟨st2, ρ2, hr2, hq2', hfr, g1⟩
            cases e <;> first | exact absurd rfl he | exact hp
      exact (key n st ρ a w hr (.inl rfl) (Fr.refl _ _) h).wp
    · split at h
      · rename_i its hl
        split at h
        · rename_i hok
          obtain ⟨hok, hnn⟩ := (Bool.and_eq_true _ _).mp hok
          obtain ⟨y0, hloop, hy0⟩ := uX (v7 hok) h
          have hr1 := OG (its := its) hr
          obtain ⟨ρ1, hr2⟩ := FT (A := c0 none b) hr hr1 (fun i _ => rfl) R6 hok hy0
          have key := hloop (fun y => ∀ ρ' a' w', Rel (s5 cx its st ρ w) nt ρ' (nU its (c0 none b) st y) a' w' → oO cx.P b (jI cx nt fun e st' => Q e st' ∧ EZ (.loop b) e st st') a' w') (by
            intro y hb ρ' a' w' hr'
            refine oO.round (wp_mono (ih (s5 cx its st ρ w) hP _ _ hb ρ' a' w' hr') ?_)
            rintro e a2 w2 ⟨st2, ρ2, hr2, hq2, hf2⟩
            by_cases he : e = .normal
            · subst he
              obtain ⟨hf1, hk⟩ := hf2.fr.TD (D := c0 none b) fun i hi => ⟨hi, hi⟩
              obtain ⟨hok2, y2, hX, hy2⟩ := r6 hq2
              obtain ⟨ρ3, hr3⟩ := FT (A := c0 none b) hr hr2 (fun i hi => hf1.s i hi) hk hok2 hy2
              exact hX ρ3 a2 w2 hr3
            · obtain ⟨g1, g2⟩ := fl he hf2.ok
              by_cases hn : ends none b = true
              · obtain ⟨hf1, hk⟩ := hf2.fr.TD (D := gK (.loop b) e) fun i hi => ⟨(g2 i hi).1 hn, (g2 i hi).2⟩
                have := uU he hq2
                have hp : jI cx nt (fun e st' => Q e st' ∧ EZ (.loop b) e st st') e a2 w2 := ⟨_, ρ2, HU hr hr2 hk, this, hf1, g1⟩
                cases e <;> first | exact absurd rfl he | exact hp
              · exact absurd hnn hn)
          exact (key ρ1 a w hr2).wp
        · exact h.elim
      · exact h.elim
  | exit id => exact fun cx hP Q st h ρ a w hr => wp_exit ⟨st, ρ, hr, h, Fr.refl _ _, by simp [dW, ends]⟩
  | ret => exact fun cx hP Q st h ρ a w hr => wp_ret ⟨st, ρ, hr, h, Fr.refl _ _, rfl⟩
  | rangeFunc _ _ _ _ => exact fun cx hP Q st h => h.elim
  | scope b ih =>
    intro cx hP Q st h ρ a w hr
    refine wp_scope_straight (wp_mono (ih cx hP _ st h ρ a w hr) ?_)
    rintro e a' w' ⟨st', ρ', hr', hq, hf⟩
    have h2 := hf.ok
    cases e with
    | goto l => exact hq.elim
    | normal => exact ⟨st', ρ', hr', hq, hf.fr.mono fun i hi => by simpa only [gK, c0] using hi, by simpa only [dW, ends] using h2⟩
    | exit id => exact ⟨st', ρ', hr', hq, hf.fr.mono fun i hi => by simpa only [gK, c0] using hi, by simpa only [dW, ends] using h2⟩
    | _ => exact ⟨st', ρ', hr', hq, hf.fr.mono fun i hi => by simpa only [gK, xA] using hi, rfl⟩
  | goto _ => exact fun cx hP Q st h => h.elim
  | refuse _ => exact fun cx hP Q st h => h.elim
end
section
variable (C : dY) (P : Program) (E : Env) (Hs : FuncId → Hint)
def W8 (rs : Array ResultVar) (K : KN) (e : Exit) (st : St) : Prop := match fQ e, PT P rs st with
  | true, some (d, σ', n') => K d σ' n'
  | _, _ => C.bad 601
def GR : Nat → T5
  | 0 => fun _ _ _ _ _ => C.bad 602
  | k + 1 => fun fid args σ n K => match P.funcs[fid]? with
    | some fn => match fn.body, decide (args.length ≤ fn.ntmps) with
      | some c, true => sx C P E (GR k) (Hs fid) fn.ntmps c (W8 C P fn.results K) (w5 args σ n)
      | _, _ => C.bad 603
    | none => C.bad 604
def XF (rs : Array ResultVar) (R : T → Prop) (e : Exit) (st : St) : Prop := match fQ e, U8 P rs st with
  | true, some r => R r
  | _, _ => C.bad 701
def XE (rs : Array ResultVar) (R : List (List T) → Prop) (e : Exit) (st : St) : Prop := match fQ e, U9 P rs st with
  | true, some r => R r
  | _, _ => C.bad 702
end
section
variable {P : Program} {E : Env} {Hs : FuncId → Hint}
theorem gC {e : Exit} (h : fQ e = true) : e = .normal ∨ e = .ret := by cases e <;> simp [fQ] at h <;> simp
theorem iH (hn : a7 P = true) {f : FuncId} {fn : Func} (hf : P.funcs[f]? = some fn) : (fn.name == "runtime.NumGoroutine") = false := by
  have := Array.all_eq_true_iff_forall_mem.1 hn fn (Array.mem_of_getElem? hf)
  simpa using this
theorem kM (hE : aM P E) (hm : P.follows .mixedOrders = true) (hn : a7 P = true) (hh : cS E) : ∀ k, FQ P (GR bP P E Hs k) := by
  intro k
  induction k with
  | zero => intro cx ρ σ n w fid args vs K hP hG hI ha h; exact h.elim
  | succ k ih =>
    intro cx ρ σ n w fid args vs K hP hG hI ha h
    simp only [GR] at h
    split at h
    · rename_i fn hf
      split at h
      · rename_i c hb hlen
        have hlen : args.length ≤ fn.ntmps := of_decide_eq_true hlen
        refine ⟨⟨fn, hf, iH hn hf, by simp [hb]⟩, ?_⟩
        subst hP
        let cx' : Cx := ⟨cx.P, cx.own, cx.w0, ρ, σ, w, cx.arg⟩
        have hI' : Inv cx' ρ σ n w := ⟨hI.boxes, hI.inj, hI.new, hI.fP, hI.below, hI.dX, hI.low⟩
        refine calls_of_wp hf hb ?_
        have hr : Rel cx' fn.ntmps ρ (w5 args σ n) { tmps := vs ++ Array.replicate (fn.ntmps - vs.size) undef, defers := [] } w := nG hI' (aJ.refl _ _ _ _) hG ha hlen
        refine wp_mono (mI hE hm hh ih c cx' rfl _ (w5 args σ n) h _ _ w hr) ?_
        rintro e a' w' ⟨st', ρ', hr', hq, hf'⟩
        unfold W8 at hq
        split at hq
        · rename_i d σ' n' he hres
          obtain ⟨v, h1, h2, h3⟩ := EH hr' hres
          simp only [Prod.mk.injEq] at h3
          obtain ⟨rfl, rfl⟩ := h3
          have hI2 : Inv cx ρ' st'.σ st'.n w' := ⟨hr'.inv.boxes, hr'.inv.inj, hr'.inv.new, hr'.inv.fP, hr'.inv.below, hr'.inv.dX, hr'.inv.low⟩
          have hk2 : aJ cx ρ ρ' σ st'.σ w w' := ⟨hr'.keeps.cell, hr'.keeps.size, hr'.keeps.own, hr'.keeps.loc, hr'.keeps.shape, hr'.keeps.ro⟩
          rcases gC he with rfl | rfl
          · exact ⟨hr'.defers, v, h1, v, ρ', d, st'.σ, st'.n, rfl, hI2, hk2, h2, hf'.fr.b, hq⟩
          · exact ⟨hr'.defers, v, h1, v, ρ', d, st'.σ, st'.n, rfl, hI2, hk2, h2, hf'.fr.b, hq⟩
        · exact hq.elim
      · exact h.elim
    · exact h.elim
def wX (C : dY) (P : Program) (E : Env) (Hs : FuncId → Hint) (k : Nat) (f : FuncId) (args : List T) (R : T → Prop) : Prop := match P.funcs[f]? with
  | some fn => match fn.body, decide (args.length ≤ fn.ntmps) with
    | some c, true => sx C P E (GR C P E Hs k) (Hs f) fn.ntmps c (XF C P fn.results R) (VE args)
    | _, _ => C.bad 703
  | none => C.bad 704
def wY (C : dY) (P : Program) (E : Env) (Hs : FuncId → Hint) (k : Nat) (f : FuncId) (args : List T) (R : List (List T) → Prop) : Prop := match P.funcs[f]? with
  | some fn => match fn.body, decide (args.length ≤ fn.ntmps) with
    | some c, true => sx C P E (GR C P E Hs k) (Hs f) fn.ntmps c (XE C P fn.results R) (VE args)
    | _, _ => C.bad 703
  | none => C.bad 704
theorem LN (hE : aM P E) (hm : P.follows .mixedOrders = true) (hn : a7 P = true) (hh : cS E) (k : Nat) {f : FuncId} {g : List T → Option T} (hex : ∃ fn c, P.funcs[f]? = some fn ∧ fn.body = some c)
    (h : ∀ args r, g args = some r → (∀ t ∈ args, Bd t) → wX bP P E Hs k f args (fun x => x = r)) : aU P f g := by
  obtain ⟨fn, c, hf, hb⟩ := hex
  refine ⟨⟨fn, hf, iH hn hf, by simp [hb]⟩, fun w own args vs r hG hown ha hg => ?_⟩
  have hbd : ∀ t ∈ args, Bd t := by
    intro t ht
    obtain ⟨i, hi, rfl⟩ := List.mem_iff_getElem.1 ht
    exact (ha.2 i hi).bd
  have hs := h args r hg hbd
  simp only [wX, hf, hb] at hs
  split at hs
  · rename_i c' he hlen
    cases he
    have hlen : args.length ≤ fn.ntmps := of_decide_eq_true hlen
    let cx : Cx := C1 P own w
    refine calls_of_wp hf hb ?_
    refine wp_mono (mI hE hm hh (kM hE hm hn hh k) c cx rfl _ (VE args) hs _ _ w (I8 (P := P) (nt := fn.ntmps) hG hown ha hlen)) ?_
    rintro e a' w' ⟨st', ρ', hr', hq, _⟩
    unfold XF at hq
    split at hq
    · rename_i r' he hres
      subst hq
      obtain ⟨v, h1, h2⟩ := PR hr' hres
      rcases gC he with rfl | rfl
      · exact ⟨hr'.defers, v, h1, v, rfl, h2, hr'.inv.below.toB⟩
      · exact ⟨hr'.defers, v, h1, v, rfl, h2, hr'.inv.below.toB⟩
    · exact hq.elim
  · exact hs.elim
theorem GH (hE : aM P E) (hm : P.follows .mixedOrders = true) (hn : a7 P = true) (hh : cS E) (k : Nat) {f : FuncId} {g : List T → Option (List (List T))} (hex : ∃ fn c, P.funcs[f]? = some fn ∧ fn.body = some c)
    (h : ∀ args r, g args = some r → (∀ t ∈ args, Bd t) → wY bP P E Hs k f args (fun x => x = r)) : gN P f g := by
  obtain ⟨fn, c, hf, hb⟩ := hex
  refine ⟨⟨fn, hf, iH hn hf, by simp [hb]⟩, fun w own args vs r hG hown ha hg => ?_⟩
  have hbd : ∀ t ∈ args, Bd t := by
    intro t ht
    obtain ⟨i, hi, rfl⟩ := List.mem_iff_getElem.1 ht
    exact (ha.2 i hi).bd
  have hs := h args r hg hbd
  simp only [wY, hf, hb] at hs
  split at hs
  · rename_i c' he hlen
    cases he
    have hlen : args.length ≤ fn.ntmps := of_decide_eq_true hlen
    let cx : Cx := C1 P own w
    refine calls_of_wp hf hb ?_
    refine wp_mono (mI hE hm hh (kM hE hm hn hh k) c cx rfl _ (VE args) hs _ _ w (I8 (P := P) (nt := fn.ntmps) hG hown ha hlen)) ?_
    rintro e a' w' ⟨st', ρ', hr', hq, _⟩
    unfold XE at hq
    split at hq
    · rename_i r' he hres
      subst hq
      obtain ⟨v, h1, h2, h3⟩ := PS hr' rfl hres
      rcases gC he with rfl | rfl
      · exact ⟨hr'.defers, v, h1, v, rfl, hr'.inv.below.toB, h2, h3⟩
      · exact ⟨hr'.defers, v, h1, v, rfl, hr'.inv.below.toB, h2, h3⟩
    · exact hq.elim
  · exact hs.elim
def I1 : Fn → Bool
  | .heap _ => false
  | _ => true
theorem aP : ∀ {l : List (FuncId × Fn)}, l.all (fun x => I1 x.2) = true → cS (Env.of l)
  | [], _, f, g, h => by simp [Env.of] at h
  | (k, x) :: l, hl, f, g, h => by
    simp only [List.all_cons, Bool.and_eq_true] at hl
    simp only [Env.of] at h
    split at h
    · cases h; simp [I1] at hl
    · exact aP hl.2 f g h
end
end Go.Pv
