/-
  The symbolic executor, part g: code, and functions.
-/
import Derived.Test.YtdeckddpmegjeaaGreatDoorPv3kf
set_option linter.defProp false
set_option linter.unusedSimpArgs false
namespace Go.Pv
open Go Go.RowKit
inductive LH where
  | none
  | inv (its : List It)
  | alt (a b : List It)
  | N2 (n : Nat)
  | alts (l : List (List It))
structure Hint where
  loop : Nat → LH
  join : Nat → Nat → Option (List It)
  ent : Nat → Ent
def aZ : Hint := ⟨fun _ => .none, fun _ _ => none, fun _ => none⟩
def tO : Code → Option Nat
  | .region id _ _ => some id
  | .seq a b => match tO a with
    | some i => some i
    | none => tO b
  | .cond _ a b => match tO a with
    | some i => some i
    | none => tO b
  | .block _ b => tO b
  | .scope b => tO b
  | .loop b => tO b
  | _ => none
def G0 : Code → Option Nat
  | .region id _ _ => some id
  | .seq a b => match G0 b with
    | some i => some i
    | none => G0 a
  | .cond _ a b => match G0 b with
    | some i => some i
    | none => G0 a
  | .block _ b => G0 b
  | .scope b => G0 b
  | .loop b => G0 b
  | _ => none
def XI (i : Nat) : List Oper → Bool
  | [] => false
  | o :: l => (match o.dst with
    | some t => t == i
    | none => false) || XI i l
def OB : Code → Nat → Bool
  | .region _ ops _, i => XI i ops.toList
  | .seq a b, i => OB a i || OB b i
  | .cond _ a b, i => OB a i || OB b i
  | .block _ b, i => OB b i
  | .scope b, i => OB b i
  | .loop b, i => OB b i
  | _, _ => false
def ends (t : Option Nat) : Code → Bool
  | .skip => t.isNone
  | .label _ => t.isNone
  | .region _ _ _ => t.isNone
  | .seq a b => (ends none a && ends t b) || (t.isSome && ends t a)
  | .cond _ a b => ends t a || ends t b
  | .block id b => match t with
    | none => ends none b || ends (some id) b
    | some j => ends (some j) b
  | .loop b => t.isSome && ends t b
  | .scope b => ends t b
  | .exit id => match t with
    | none => false
    | some j => j == id
  | _ => false
def gY (t : Option Nat) : Code → Nat → Bool
  | .region _ ops _, i => XI i ops.toList
  | .seq a b, i => (ends none a && ends t b && (gY none a i || gY t b i)) || (t.isSome && ends t a && gY t a i)
  | .cond _ a b, i => (ends t a && gY t a i) || (ends t b && gY t b i)
  | .block id b, i => match t with
    | none => (ends none b && gY none b i) || (ends (some id) b && gY (some id) b i)
    | some j => gY (some j) b i
  | .loop b, i => (ends none b && gY none b i) || gY t b i
  | .scope b, i => gY t b i
  | _, _ => false
def oD (c : Code) : Exit → Nat → Bool
  | .normal => gY none c
  | .exit id => gY (some id) c
  | _ => OB c
def j7 (c : Code) : Exit → Bool
  | .normal => ends none c
  | .exit id => ends (some id) c
  | _ => true
theorem KV : ∀ {l : List Oper} {o : Oper} {t : Tmp}, o ∈ l → o.dst = some t → XI t l = true
  | [], _, _, h, _ => by cases h
  | a :: l, o, t, h, ht => by
    simp only [XI, Bool.or_eq_true]
    rcases List.mem_cons.1 h with rfl | h
    · exact .inl (by simp [ht])
    · exact .inr (KV h ht)
def A89 (H : Hint) (a : Code) : Option (List It) := match tO a, G0 a with
  | some i, some j => H.join i j
  | _, _ => none
def fits (st : St) : List It → Bool
  | [] => true
  | .arr k _ _ :: l => (match st.σ k with
    | some (.arr _ _ _) => true
    | _ => false) && fits st l
  | .own t _ _ :: l => (match st.s t with
    | .own _ => true
    | .p t => (match eV t with
      | some (true, []) => true
      | _ => false)
    | _ => false) && fits st l
  | .box k _ :: l => (match st.σ k with
    | some (.rows _ _) => true
    | _ => false) && fits st l
  | .map k _ _ _ :: l => (match st.σ k with
    | some (.map _ _) => true
    | _ => false) && fits st l
  | .bZ k :: l => (match st.σ k with
    | some (.bZ _ _ _ _) => true
    | _ => false) && fits st l
  | _ :: l => fits st l
def BAR (h : LH) (st : St) : Option (List It) := match h with
  | .inv its => some its
  | .alt a b => match fits st a with
    | true => some a
    | false => some b
  | .alts l => l.find? fun its => fits st its
  | _ => none
def A9C (H : Hint) (b : Code) : LH := match tO b with
  | some i => H.loop i
  | none => .none
section
variable (C : iZ) (P : Program) (E : Env) (I : Inl) (H : Hint) (nt : Nat)
def A58 (ops : List Oper) (st : St) : Nat → Operand → Option Nat
  | 0, _ => none
  | f + 1, x => match ev (b9 true st.s) x with
    | .ptr k _ _ => some k
    | _ => match x with
      | .tmp t => match ops.find? (fun o => o.dst == some t) with
        | some o => match o.op with
          | .fieldAddr _ a _ => A58 ops st f a
          | _ => none
        | none => none
      | _ => none
def BER (ops : Array Oper) (st : St) : Option Nat := ops.toList.foldl (fun m o => match o.op with
  | .store _ a _ => match A58 ops.toList st 6 a, m with
    | some k, some m => some (min k m)
    | _, _ => none
  | _ => m) (some st.n)
def AWU (E : Env) (ops : Array Oper) : Option Nat := ((List.range ops.size).filter fun i => match ops[i]? with
  | some o => match o.op with
    | .call c => match c.callee with
      | .value (.tmp _) => true
      | .value (.func f) => (E f).isNone
      | _ => false
    | _ => false
  | none => false).getLast?
def A59 (E : Env) (ops : Array Oper) : Option Nat := match AWU E ops with
  | some t => match T8 E ops t with
    | true => some t
    | false => none
  | none => none
def BDX (id : Nat) (ops : Array Oper) (draw : Bool) (st : St) (K : St → Prop) : Prop :=
  match draw with
  | false => evK C P E nt I (H.ent id) false ops ops.toList st K
  | true => match A59 E ops with
   | some t => u9 false C P E nt ops st.n (List.range t) (eN ops st) fun st1 => evK C P E nt I none false ops (ops.toList.drop t) st1 K
   | none => match qY E ops with
    | true => evK C P E nt I none true ops ops.toList st K
    | false => match rL false E ops with
      | true => u9 false C P E nt ops st.n (BT false E ops) (eN ops st) K
      | false => match rL true E ops && A3Z ops, BER ops st with
       | true, some base => match Nat.ble base st.n with
        | true => u9 true C P E nt ops base (BT true E ops) (eN ops st) K
        | false => C.bad 510
       | _, _ => match Nat.ble ops.size 7 with
        | true => anyS C P E nt ops K ops.size (Array.replicate ops.size false) st
        | false => match ANR false E ops with
          | true => KF false C P E nt ops st.n (uY ops.toList []) K ops.size (Array.replicate ops.size false) (eN ops st)
          | false => C.bad 501
def ALW (its : List It) (st₀ : St) (X : D1.den its → Prop) (Q : Exit → St → Prop) : Exit → St → Prop
  | .normal, st => match G3 its st₀ st with
    | true => AUI C st₀ st its X
    | false => C.bad 502
  | e, st => Q e (VN its st₀ st)
def unr (F : (Exit → St → Prop) → St → Prop) (Q : Exit → St → Prop) : Nat → St → Prop
  | 0, _ => C.bad 503
  | n + 1, st => F (fun e st' => match e with
    | .normal => unr F Q n st'
    | e => Q e st') st
def A3N (c : Operand) (b : Bool) (st : St) : St := match c with
  | .tmp t => match st.s t with
    | .p (.v (.bool _)) => ⟨b6 st.s t (.p (.v (.bool b))), st.σ, st.n⟩
    | _ => st
  | _ => st
def sx : Code → (Exit → St → Prop) → St → Prop
  | .skip, Q, st => Q .normal st
  | .label _, Q, st => Q .normal st
  | .region id ops draw, Q, st => BDX C P E I H nt id ops draw st (Q .normal)
  | .seq a b, Q, st => match A89 H a with
    | none => sx a (AA6 (sx b Q) Q) st
    | some its => C.join (D1.den its) (fun X => sx a (ALW C its st X Q) (OO its st)) fun y => sx b Q (VN its st (zM its (gY none a) st y))
  | .cond c t e, Q, st => match ev (b9 true st.s) c with
    | .p (.v (.bool b)) => aC b (sx t Q (A3N c true st)) (sx e Q (A3N c false st))
    | _ => C.bad 504
  | .block id b, Q, st => sx b (D3 id Q) st
  | .loop b, Q, st => match A9C H b with
    | .N2 n => unr C (sx b) Q n st
    | h => match BAR h st with
      | some its => match G3 its st (OO its st) && ends none b with
        | true => AUI C st (OO its st) its fun y => C.loop (D1.den its) (fun X y => sx b (ALW C its st X Q) (zM its (gY none b) st y)) y
        | false => C.bad 505
      | none => C.bad 506
  | .exit id, Q, st => Q (.exit id) st
  | .ret, Q, st => Q .ret st
  | .scope b, Q, st => sx b (T3 Q) st
  | _, _, _ => C.bad 507
end
theorem AIE {c : Operand} {b : Bool} {st : St} (h : ev (b9 true st.s) c = .p (.v (.bool b))) : A3N c b st = st := by
  unfold A3N
  split
  · rename_i t
    split
    · rename_i b' hb
      have : b' = b := by
        simp only [ev, b9, hb, strip] at h
        cases h; rfl
      subst this
      have : b6 st.s t (.p (.v (.bool b'))) = st.s := by
        funext i
        by_cases e : i = t
        · subst e; rw [dX, hb]
        · rw [bK _ _ e]
      rw [this]
    · rfl
  · rfl
def BN (P : Program) (b : Code) (Q : Exit → Act → World → Prop) (a : Act) (w : World) : Prop :=
  ∀ (fb : Frame) (k : List Item) (cs : List Frame), ∃ e a' w', Q e a' w' ∧ Arrives P (lone (fb.at a (.code b :: .inLoop b :: k)) cs w) fb k cs e a' w'
theorem BN.wp {P : Program} {b : Code} {Q : Exit → Act → World → Prop} {a : Act} {w : World} (h : BN P b Q a w) : (Code.loop b).wp P Q a w := by
  intro fb k cs
  obtain ⟨e, a', w', hq, harr⟩ := h fb k cs
  exact ⟨e, a', w', hq, .of_steps (.one step_loop) harr⟩
theorem BN.round {P : Program} {b : Code} {Q : Exit → Act → World → Prop} {a : Act} {w : World} (h : b.wp P (fun e a w => match e with
    | .normal => BN P b Q a w
    | e => Q e a w) a w) : BN P b Q a w := by
  intro fb k cs
  obtain ⟨e, a₁, w₁, hq, harr⟩ := h fb (.inLoop b :: k) cs
  cases e with
  | normal =>
    obtain ⟨e₂, a₂, w₂, hq₂, harr₂⟩ := hq fb k cs
    exact ⟨e₂, a₂, w₂, hq₂, .of_steps (Steps.trans harr (.one step_inLoop)) harr₂⟩
  | exit id => exact ⟨_, a₁, w₁, hq, .pass (x := .inLoop b) rfl (fun _ _ => .inl (by simp)) harr⟩
  | goto l => exact ⟨_, a₁, w₁, hq, .pass (x := .inLoop b) rfl (fun _ _ => .inl (by simp)) harr⟩
  | ret => exact ⟨_, a₁, w₁, hq, .pass (x := .inLoop b) rfl (fun _ _ => .inl (by simp)) harr⟩
  | panic ch => exact ⟨_, a₁, w₁, hq, .pass (x := .inLoop b) rfl (fun _ _ => .inl (by simp)) harr⟩
  | outgrown => exact ⟨_, a₁, w₁, hq, .pass (x := .inLoop b) rfl (fun _ _ => .inl (by simp)) harr⟩
section
variable {P : Program} {E : Env} {I : Inl} {H : Hint} {nt : Nat}
theorem Fr.A53 {its : List It} {A B D : Nat → Bool} {st₀ st : St} {y : D1.den its} (h : Fr B (zM its A st₀ y) st) (hD : ∀ i, D i = false → A i = false ∧ B i = false) : Fr D st₀ (VN its st₀ st) ∧ ∀ k x, kept its st₀ k = true → st₀.σ k = some x → st.σ k = some (lock x) := by
  have hk : ∀ k x, kept its st₀ k = true → st₀.σ k = some x → st.σ k = some (lock x) := by
    intro k x hke hx
    obtain ⟨hlt, x0, h0, h1, _⟩ := lR hke
    rw [hx] at h0; cases h0
    exact h.b.2 k (lock x) (by show k < st₀.n + vD its; omega) (by simp only [zM, decide_eq_true hlt, hke, hx, Option.map_some]) h1
  refine ⟨⟨fun i hi => ?_, ?_, fun k x hlt hx hw => ?_⟩, hk⟩
  · obtain ⟨h1, h2⟩ := hD i hi
    have := h.s i h2
    simp only [zM, h1] at this
    exact this
  · have := h.b.1
    simp only [zM] at this
    show st₀.n ≤ st.n
    omega
  · have hke := CL (its := its) hlt hx hw
    simp only [VN, hke, hx]
theorem Fr.BDU {its : List It} {A : Nat → Bool} {st₀ st : St} (h : Fr A (OO its st₀) st) : Fr A st₀ (VN its st₀ st) ∧ ∀ k x, kept its st₀ k = true → st₀.σ k = some x → st.σ k = some (lock x) := by
  have hk : ∀ k x, kept its st₀ k = true → st₀.σ k = some x → st.σ k = some (lock x) := by
    intro k x hke hx
    obtain ⟨hlt, x0, h0, h1, _⟩ := lR hke
    rw [hx] at h0; cases h0
    exact h.b.2 k (lock x) hlt (by simp only [OO, hke, hx, Option.map_some]) h1
  refine ⟨⟨fun i hi => h.s i hi, h.b.1, fun k x hlt hx hw => ?_⟩, hk⟩
  have hke := CL (its := its) hlt hx hw
  simp only [VN, hke, hx]
theorem A3C {its : List It} {A : Nat → Bool} {st₀ : St} {y : D1.den its} : Fr A st₀ (VN its st₀ (zM its A st₀ y)) := by
  refine ⟨fun i hi => ?_, ?_, fun k x hlt hx hw => ?_⟩
  · simp only [VN, zM, hi]
  · show st₀.n ≤ st₀.n + vD its
    omega
  · have hke := CL (its := its) hlt hx hw
    simp only [VN, hke, hx]
theorem A3H {its : List It} {A : Nat → Bool} {st₀ : St} {y : D1.den its} : ∀ k x, kept its st₀ k = true → st₀.σ k = some x → (zM its A st₀ y).σ k = some (lock x) := by
  intro k x hke hx
  obtain ⟨hlt, _⟩ := lR hke
  simp only [zM, decide_eq_true hlt, hke, hx, Option.map_some]
theorem A3O {its : List It} {st₀ : St} : ∀ k x, kept its st₀ k = true → st₀.σ k = some x → (OO its st₀).σ k = some (lock x) := by
  intro k x hke hx
  simp only [OO, hke, hx, Option.map_some]
theorem ADC {cx : Cx} {its : List It} {A : Nat → Bool} {st₀ st : St} {y : D1.den its} {ρ₀ ρ : Nat → Option Loc} {a₀ a : Act} {w₀ w : World} (hR0 : Rel cx nt ρ₀ st₀ a₀ w₀) (hR : Rel (IA cx its st₀ ρ₀ w₀) nt ρ st a w) (hs : ∀ i, A i = false → st.s i = st₀.s i)
    (hk : ∀ k x, kept its st₀ k = true → st₀.σ k = some x → st.σ k = some (lock x)) (hok : G3 its st₀ st = true) (hy : AHF st₀.n st₀ st its y) : ∃ ρ', Rel (IA cx its st₀ ρ₀ w₀) nt ρ' (zM its A st₀ y) a w := by
  have hdom : ∀ k l, ρ₀ k = some l → k < st₀.n := fun k l hl => (hR0.inv.new k l hl).1
  refine A13 hR (fun i _ => (hR0.mI i).blw hdom) (fun k x hx => ?_) hdom (fun k x hx hw => ?_) hs hk hok hy
  · obtain ⟨l, _, hb⟩ := hR0.inv.boxes k x hx
    exact hb.blw hdom
  · change (OO its st₀).σ k = some x at hx
    cases hke : kept its st₀ k with
    | true => rfl
    | false =>
      simp only [OO, hke] at hx
      obtain ⟨l, hl, _⟩ := hR0.inv.boxes k x hx
      rw [CL (hdom k l hl) hx hw] at hke
      cases hke
theorem ML {its : List It} {st₀ st : St} (h : G3 its st₀ st = true) : IB st₀.n its = true := by
  unfold G3 at h
  rw [Bool.and_eq_true] at h
  exact h.2
theorem GK {its : List It} {st₀ st : St} {X : D1.den its → Prop} {Q : Exit → St → Prop} (h : ALW bW its st₀ X Q .normal st) : G3 its st₀ st = true ∧ ∃ y, X y ∧ AHF st₀.n st₀ st its y := by
  simp only [ALW] at h
  split at h
  · rename_i hok
    exact ⟨hok, K3 (ML hok) h⟩
  · exact h.elim
theorem K0 {its : List It} {st₀ st : St} {X : D1.den its → Prop} {Q : Exit → St → Prop} {e : Exit} (he : e ≠ .normal) (h : ALW bW its st₀ X Q e st) : Q e (VN its st₀ st) := by
  cases e <;> first | exact h | exact absurd rfl he
theorem W3 {t : Option Nat} : ∀ {c : Code} {i : Nat}, OB c i = false → gY t c i = false := by
  intro c
  induction c generalizing t with
  | seq a b iha ihb =>
    intro i h
    simp only [OB, Bool.or_eq_false_iff] at h
    simp only [gY, iha (t := none) h.1, iha (t := t) h.1, ihb (t := t) h.2, Bool.or_false, Bool.and_false]
  | cond c a b iha ihb =>
    intro i h
    simp only [OB, Bool.or_eq_false_iff] at h
    simp only [gY, iha (t := t) h.1, ihb (t := t) h.2, Bool.or_false, Bool.and_false]
  | block id b ih =>
    intro i h
    simp only [OB] at h
    cases t with
    | none => simp only [gY, ih (t := none) h, ih (t := some id) h, Bool.and_false, Bool.or_false]
    | some j => simp only [gY, ih (t := some j) h]
  | loop b ih =>
    intro i h
    simp only [OB] at h
    simp only [gY, ih (t := none) h, ih (t := t) h, Bool.and_false, Bool.or_false]
  | region id ops draw => intro i h; exact h
  | scope b ih =>
    intro i h
    simp only [OB] at h
    simp only [gY, ih (t := t) h]
  | _ => intro i h; rfl
structure FrE (c : Code) (e : Exit) (st st' : St) : Prop where
  fr : Fr (oD c e) st st'
  ok : j7 c e = true
theorem xG (hE : aT P E) (hm : P.follows .mixedOrders = true) (hh : fF E) (hI : ADA P I) : ∀ (c : Code) (cx : Cx), cx.P = P → ∀ (Q : Exit → St → Prop) (st : St), sx bW P E I H nt c Q st → AW cx nt c (fun e st' => Q e st' ∧ FrE c e st st') st := by
  intro c
  induction c with
  | skip => exact fun cx hP Q st h ρ a w hr => wp_skip ⟨st, ρ, hr, h, Fr.refl _ _, rfl⟩
  | label l => exact fun cx hP Q st h ρ a w hr => wp_label ⟨st, ρ, hr, h, Fr.refl _ _, rfl⟩
  | region id ops draw =>
    intro cx hP Q st h
    subst hP
    have hA : ∀ o ∈ ops.toList, ∀ t, o.dst = some t → oD (.region id ops draw) .normal t = true := fun o ho t ht => KV ho ht
    simp only [sx, BDX] at h
    split at h
    · intro ρ a w hr
      refine wp_region ?_
      have := vW (Q := rE cx nt fun e st' => Q e st' ∧ FrE (.region id ops false) e st st') hE hh hI (fun st' ρ a w hr' hf hk => ⟨st', ρ, hr', hk, hf, rfl⟩) ops.toList 0 st ρ a w (by simp) hA (Fr.refl _ _) hr h
      rw [List.range_eq_range']
      simpa using this
    · split at h
      · rename_i t htail
        have hT : T8 E ops t = true := by
          unfold A59 at htail
          split at htail
          · split at htail
            · cases htail; assumption
            · cases htail
          · cases htail
        obtain ⟨st1, h1, h2, h3⟩ := B0 hh hA (List.range t) (eN ops st) (Fr.refl _ _) h
        have hroom : Fr (oD (.region id ops true) .normal) st (eN ops st) := ⟨fun _ _ => rfl, tD.same (n' := (eN ops st).n) (Nat.le_add_right _ _)⟩
        refine APF hE hm hT h1 fun ρ a w hr => ?_
        have := vW (Q := rE cx nt fun e st' => Q e st' ∧ FrE (.region id ops true) e st st') hE hh hI (fun st' ρ a w hr' hf hk => ⟨st', ρ, hr', hk, hf, rfl⟩) (ops.toList.drop t) t st1 ρ a w (fun j => by simp) (fun o ho => hA o (List.mem_of_mem_drop ho)) (hroom.trans h2) hr h3
        simpa using this
      split at h
      · rename_i hord
        obtain ⟨st', h1, h2, h3⟩ := AUG hh ops.toList st hA (Fr.refl _ _) h
        exact AHB hE hm hord h1 ⟨h3, h2, rfl⟩
      · split at h
        · rename_i hord
          obtain ⟨st', h1, h2, h3⟩ := B0 hh hA (BT false E ops) (eN ops st) (Fr.refl _ _) h
          have hroom : Fr (oD (.region id ops true) .normal) st (eN ops st) := ⟨fun _ _ => rfl, tD.same (n' := (eN ops st).n) (Nat.le_add_right _ _)⟩
          exact VT hE hm hord h1 ⟨h3, hroom.trans h2, rfl⟩
        · split at h
          · rename_i hord hlow
            split at h
            · rename_i hle
              obtain ⟨st', h1, h2, h3⟩ := B0 hh hA (BT true E ops) (eN ops st) (Fr.refl _ _) h
              have hroom : Fr (oD (.region id ops true) .normal) st (eN ops st) := ⟨fun _ _ => rfl, tD.same (n' := (eN ops st).n) (Nat.le_add_right _ _)⟩
              rw [Bool.and_eq_true] at hord
              exact APE hE hm (Nat.le_of_ble_eq_true hle) hord.2 hord.1 h1 ⟨h3, hroom.trans h2, rfl⟩
            · exact h.elim
          split at h
          · refine A6B hE hm ?_
            have := WW hh hA ops.size (Array.replicate ops.size false) st (Fr.refl _ _) h
            exact OW (fun s hs => ⟨hs.2, hs.1, rfl⟩) this
          split at h
          · rename_i hmx
            have hroom : Fr (oD (.region id ops true) .normal) st (eN ops st) := ⟨fun _ _ => rfl, tD.same (n' := (eN ops st).n) (Nat.le_add_right _ _)⟩
            have := OY (ms := uY ops.toList []) (fun j i hb => lS ops.toList [] (by simp) (fun j i hb => by simp at hb) j i hb) hh hA ops.size (Array.replicate ops.size false) (eN ops st)
              (fun m o _ hm' => by simp [Array.getElem?_replicate] at hm'; split at hm' <;> simp at hm') (Nat.le_add_right _ _) (Fr.refl _ _) h
            exact APD hE hm hmx (OX (fun s hs => ⟨hs.2, hroom.trans hs.1, rfl⟩) this)
          · exact h.elim
  | seq a b iha ihb =>
    intro cx hP Q st h
    have fab : ∀ {e : Exit} {st st1 st2 : St}, Fr (gY none a) st st1 → ends none a = true → FrE b e st1 st2 → FrE (.seq a b) e st st2 := by
      intro e st st1 st2 h1 h2 h3
      have hends : j7 (.seq a b) e = true := by
        have := h3.ok
        cases e <;> simp only [j7, ends] at this ⊢ <;> simp [h2, this]
      have hi : ∀ i, oD (.seq a b) e i = false → gY none a i = false ∧ oD b e i = false := by
        intro i hi
        have h4 := h3.ok
        cases e <;> simp only [j7, oD, gY, OB] at hi h4 ⊢ <;> simp only [h2, h4, Bool.true_and, Bool.or_eq_false_iff] at hi <;> first | exact hi.1 | exact ⟨W3 hi.1, hi.2⟩
      exact ⟨(h1.mono fun i h => (hi i h).1).trans (h3.fr.mono fun i h => (hi i h).2), hends⟩
    have fa : ∀ {e : Exit} {st st1 : St}, e ≠ .normal → j7 a e = true → Fr (oD a e) st st1 → FrE (.seq a b) e st st1 := by
      intro e st st1 hne h2 h1
      refine ⟨h1.mono fun i hi => ?_, ?_⟩
      · cases e <;> simp only [j7, oD, gY, OB] at hi h2 ⊢
        · exact absurd rfl hne
        · simp only [h2, Option.isSome_some, Bool.true_and, Bool.or_eq_false_iff] at hi; exact hi.2
        all_goals (simp only [Bool.or_eq_false_iff] at hi; exact hi.1)
      · cases e <;> simp only [j7, ends] at h2 ⊢
        · exact absurd rfl hne
        · simp [h2]
    simp only [sx] at h
    split at h
    · intro ρ act w hr
      refine wp_seq (wp_mono (iha cx hP _ st h ρ act w hr) ?_)
      rintro e a' w' ⟨st', ρ', hr', hq, hf⟩
      by_cases he : e = .normal
      · subst he
        refine wp_mono (ihb cx hP Q st' hq ρ' a' w' hr') ?_
        rintro e2 a2 w2 ⟨st2, ρ2, hr2, hq2, hf2⟩
        exact ⟨st2, ρ2, hr2, hq2, fab hf.fr hf.ok hf2⟩
      · have hp : rE cx nt (fun e st' => Q e st' ∧ FrE (.seq a b) e st st') e a' w' := ⟨st', ρ', hr', by cases e <;> first | exact absurd rfl he | exact hq, fa he hf.ok hf.fr⟩
        cases e <;> first | exact absurd rfl he | exact hp
    · rename_i its hj
      intro ρ act w hr
      have h : sx bW P E I H nt a (ALW bW its st (fun y => sx bW P E I H nt b Q (VN its st (zM its (gY none a) st y))) Q) (OO its st) := h
      refine wp_seq ?_
      have h1 := iha (IA cx its st ρ w) hP _ _ h ρ act w (AWZ hr)
      refine wp_mono h1 ?_
      rintro e a' w' ⟨st', ρ', hr', hq, hf⟩
      obtain ⟨hf1, hk⟩ := hf.fr.BDU
      by_cases he : e = .normal
      · subst he
        obtain ⟨hok, y, hX, hy⟩ := GK hq
        obtain ⟨ρ2, hr2⟩ := ADC (A := gY none a) hr hr' (fun i hi => hf.fr.s i hi) hk hok hy
        have hr3 := AHA hr hr2 A3H
        refine wp_mono (ihb cx hP Q _ hX ρ2 a' w' hr3) ?_
        rintro e2 a2 w2 ⟨st2, ρ2, hr2, hq2, hf2⟩
        exact ⟨st2, ρ2, hr2, hq2, fab A3C hf.ok hf2⟩
      · have := K0 he hq
        have hp : rE cx nt (fun e st' => Q e st' ∧ FrE (.seq a b) e st st') e a' w' := ⟨_, ρ', AHA hr hr' hk, this, fa he hf.ok hf1⟩
        cases e <;> first | exact absurd rfl he | exact hp
  | cond c t e iht ihe =>
    intro cx hP Q st h ρ a w hr
    simp only [sx] at h
    split at h
    · rename_i b hb
      have hev := hr.evS c
      rw [hb] at hev
      have hval : a.eval c = .bool b := by
        generalize a.eval c = q at hev ⊢
        cases hev with
        | p _ _ h => cases h; rfl
      refine wp_cond hval ?_
      rw [sO] at h
      have f1 : ∀ {x : Exit} {st st1 : St}, FrE t x st st1 → FrE (.cond c t e) x st st1 := by
        intro x st st1 hf
        have h2 := hf.ok
        refine ⟨hf.fr.mono fun i hi => ?_, ?_⟩
        · cases x <;> simp only [j7, oD, gY, OB] at hi h2 ⊢ <;> simp only [h2, Bool.true_and, Bool.or_eq_false_iff] at hi <;> exact hi.1
        · cases x <;> simp only [j7, ends] at h2 ⊢ <;> simp [h2]
      have f2 : ∀ {x : Exit} {st st1 : St}, FrE e x st st1 → FrE (.cond c t e) x st st1 := by
        intro x st st1 hf
        have h2 := hf.ok
        refine ⟨hf.fr.mono fun i hi => ?_, ?_⟩
        · cases x <;> simp only [j7, oD, gY, OB] at hi h2 ⊢ <;> simp only [h2, Bool.true_and, Bool.or_eq_false_iff] at hi <;> exact hi.2
        · cases x <;> simp only [j7, ends] at h2 ⊢ <;> simp [h2]
      cases b with
      | true =>
        rw [if_pos rfl]
        refine wp_mono (iht cx hP Q st (by have := h.1 rfl; rwa [AIE hb] at this) ρ a w hr) ?_
        rintro e a' w' ⟨st', ρ', hr', hq, hf⟩
        exact ⟨st', ρ', hr', hq, f1 hf⟩
      | false =>
        rw [if_neg (by simp)]
        refine wp_mono (ihe cx hP Q st (by have := h.2 rfl; rwa [AIE hb] at this) ρ a w hr) ?_
        rintro e a' w' ⟨st', ρ', hr', hq, hf⟩
        exact ⟨st', ρ', hr', hq, f2 hf⟩
    · exact h.elim
  | block id b ih =>
    intro cx hP Q st h ρ a w hr
    refine wp_block (wp_mono (ih cx hP _ st h ρ a w hr) ?_)
    rintro e a' w' ⟨st', ρ', hr', hq, hf⟩
    have h2 := hf.ok
    cases e with
    | exit id' =>
      simp only [D3] at hq
      simp only [Exit.inBlock]
      split at hq
      · rename_i e
        rw [if_pos e]
        subst e
        refine ⟨st', ρ', hr', hq, hf.fr.mono fun i hi => ?_, ?_⟩
        · simp only [j7, oD, gY] at hi h2 ⊢
          simp only [h2, Bool.true_and, Bool.or_eq_false_iff] at hi; exact hi.2
        · simp only [j7, ends] at h2 ⊢; simp [h2]
      · rename_i e
        rw [if_neg e]
        exact ⟨st', ρ', hr', hq, hf.fr.mono fun i hi => by simpa only [oD, gY] using hi, by simpa only [j7, ends] using h2⟩
    | normal =>
      refine ⟨st', ρ', hr', hq, hf.fr.mono fun i hi => ?_, ?_⟩
      · simp only [j7, oD, gY] at hi h2 ⊢
        simp only [h2, Bool.true_and, Bool.or_eq_false_iff] at hi; exact hi.1
      · simp only [j7, ends] at h2 ⊢; simp [h2]
    | _ => exact ⟨st', ρ', hr', hq, hf.fr.mono fun i hi => by simpa only [oD, OB] using hi, rfl⟩
  | loop b ih =>
    intro cx hP Q st h ρ a w hr
    have fl : ∀ {e : Exit}, e ≠ .normal → j7 b e = true → j7 (.loop b) e = true ∧ ∀ i, oD (.loop b) e i = false → (ends none b = true → gY none b i = false) ∧ oD b e i = false := by
      intro e hne h2
      refine ⟨?_, fun i hi => ?_⟩
      · cases e <;> simp only [j7, ends] at h2 ⊢
        · exact absurd rfl hne
        · simp [h2]
      · cases e <;> simp only [oD, gY, OB] at hi ⊢
        · exact absurd rfl hne
        · simp only [Bool.or_eq_false_iff] at hi
          exact ⟨fun h => by simpa [h] using hi.1, hi.2⟩
        all_goals exact ⟨fun _ => W3 hi, hi⟩
    simp only [sx] at h
    split at h
    · rename_i n hl
      have key : ∀ (n : Nat) (st1 : St) (ρ : Nat → Option Loc) (a : Act) (w : World), Rel cx nt ρ st1 a w → (st1 = st ∨ ends none b = true) → Fr (gY none b) st st1 → unr bW (sx bW P E I H nt b) Q n st1 → BN cx.P b (rE cx nt fun e st' => Q e st' ∧ FrE (.loop b) e st st') a w := by
        intro n
        induction n with
        | zero => intro st1 ρ a w hr _ hf h; exact h.elim
        | succ n ihn =>
          intro st1 ρ a w hr hor hf h
          refine BN.round (wp_mono (ih cx hP _ st1 h ρ a w hr) ?_)
          rintro e a2 w2 ⟨st2, ρ2, hr2, hq2, hf2⟩
          by_cases he : e = .normal
          · subst he
            exact ihn st2 ρ2 a2 w2 hr2 (.inr hf2.ok) (hf.trans hf2.fr) hq2
          · obtain ⟨g1, g2⟩ := fl he hf2.ok
            have hq2' : Q e st2 := by cases e <;> first | exact absurd rfl he | exact hq2
            have hfr : Fr (oD (.loop b) e) st st2 := by
              rcases hor with rfl | hor
              · exact hf2.fr.mono fun i hi => (g2 i hi).2
              · exact (hf.mono fun i hi => (g2 i hi).1 hor).trans (hf2.fr.mono fun i hi => (g2 i hi).2)
            have hp : rE cx nt (fun e st' => Q e st' ∧ FrE (.loop b) e st st') e a2 w2 := ⟨st2, ρ2, hr2, hq2', hfr, g1⟩
            cases e <;> first | exact absurd rfl he | exact hp
      exact (key n st ρ a w hr (.inl rfl) (Fr.refl _ _) h).wp
    · split at h
      · rename_i its hl
        split at h
        · rename_i hok
          obtain ⟨hok, hnn⟩ := (Bool.and_eq_true _ _).mp hok
          obtain ⟨y0, hloop, hy0⟩ := K3 (ML hok) h
          have hr1 := AWZ (its := its) hr
          obtain ⟨ρ1, hr2⟩ := ADC (A := gY none b) hr hr1 (fun i _ => rfl) A3O hok hy0
          have key := hloop (fun y => ∀ ρ' a' w', Rel (IA cx its st ρ w) nt ρ' (zM its (gY none b) st y) a' w' → BN cx.P b (rE cx nt fun e st' => Q e st' ∧ FrE (.loop b) e st st') a' w') (by
            intro y hb ρ' a' w' hr'
            refine BN.round (wp_mono (ih (IA cx its st ρ w) hP _ _ hb ρ' a' w' hr') ?_)
            rintro e a2 w2 ⟨st2, ρ2, hr2, hq2, hf2⟩
            by_cases he : e = .normal
            · subst he
              obtain ⟨hf1, hk⟩ := hf2.fr.A53 (D := gY none b) fun i hi => ⟨hi, hi⟩
              obtain ⟨hok2, y2, hX, hy2⟩ := GK hq2
              obtain ⟨ρ3, hr3⟩ := ADC (A := gY none b) hr hr2 (fun i hi => hf1.s i hi) hk hok2 hy2
              exact hX ρ3 a2 w2 hr3
            · obtain ⟨g1, g2⟩ := fl he hf2.ok
              by_cases hn : ends none b = true
              · obtain ⟨hf1, hk⟩ := hf2.fr.A53 (D := oD (.loop b) e) fun i hi => ⟨(g2 i hi).1 hn, (g2 i hi).2⟩
                have := K0 he hq2
                have hp : rE cx nt (fun e st' => Q e st' ∧ FrE (.loop b) e st st') e a2 w2 := ⟨_, ρ2, AHA hr hr2 hk, this, hf1, g1⟩
                cases e <;> first | exact absurd rfl he | exact hp
              · exact absurd hnn hn)
          exact (key ρ1 a w hr2).wp
        · exact h.elim
      · exact h.elim
  | exit id => exact fun cx hP Q st h ρ a w hr => wp_exit ⟨st, ρ, hr, h, Fr.refl _ _, by simp [j7, ends]⟩
  | ret => exact fun cx hP Q st h ρ a w hr => wp_ret ⟨st, ρ, hr, h, Fr.refl _ _, rfl⟩
  | rangeFunc _ _ _ _ => exact fun cx hP Q st h => h.elim
  | scope b ih =>
    intro cx hP Q st h ρ a w hr
    refine wp_scope_straight (wp_mono (ih cx hP _ st h ρ a w hr) ?_)
    rintro e a' w' ⟨st', ρ', hr', hq, hf⟩
    have h2 := hf.ok
    cases e with
    | goto l => exact hq.elim
    | normal => exact ⟨st', ρ', hr', hq, hf.fr.mono fun i hi => by simpa only [oD, gY] using hi, by simpa only [j7, ends] using h2⟩
    | exit id => exact ⟨st', ρ', hr', hq, hf.fr.mono fun i hi => by simpa only [oD, gY] using hi, by simpa only [j7, ends] using h2⟩
    | _ => exact ⟨st', ρ', hr', hq, hf.fr.mono fun i hi => by simpa only [oD, OB] using hi, rfl⟩
  | goto _ => exact fun cx hP Q st h => h.elim
  | refuse _ => exact fun cx hP Q st h => h.elim
end
section
variable (C : iZ) (P : Program) (E : Env) (Hs : FuncId → Hint)
def BDV (rs : Array ResultVar) (K : KN) (e : Exit) (st : St) : Prop := match mF e, AYP P rs st with
  | true, some (d, σ', n') => K d σ' n'
  | _, _ => C.bad 601
def AE4 : Nat → Inl
  | 0 => fun _ _ _ _ _ => C.bad 602
  | k + 1 => fun fid args σ n K => match P.funcs[fid]? with
    | some fn => match fn.body, decide (args.length ≤ fn.ntmps) with
      | some c, true => sx C P E (AE4 k) (Hs fid) fn.ntmps c (BDV C P fn.results K) (RA args σ n)
      | _, _ => C.bad 603
    | none => C.bad 604
def BD7 (rs : Array ResultVar) (R : T → Prop) (e : Exit) (st : St) : Prop := match mF e, BAU P rs st with
  | true, some r => R r
  | _, _ => C.bad 701
def BD5 (rs : Array ResultVar) (R : List (List T) → Prop) (e : Exit) (st : St) : Prop := match mF e, BAV P rs st with
  | true, some r => R r
  | _, _ => C.bad 702
end
section
variable {P : Program} {E : Env} {Hs : FuncId → Hint}
theorem nS {e : Exit} (h : mF e = true) : e = .normal ∨ e = .ret := by cases e <;> simp [mF] at h <;> simp
theorem pY (hn : cG P = true) {f : FuncId} {fn : Func} (hf : P.funcs[f]? = some fn) : (fn.name == "runtime.NumGoroutine") = false := by
  have := Array.all_eq_true_iff_forall_mem.1 hn fn (Array.mem_of_getElem? hf)
  simpa using this
theorem uB (hE : aT P E) (hm : P.follows .mixedOrders = true) (hn : cG P = true) (hh : fF E) : ∀ k, ADA P (AE4 bW P E Hs k) := by
  intro k
  induction k with
  | zero => intro cx ρ σ n w fid args vs K hP hG hI ha h; exact h.elim
  | succ k ih =>
    intro cx ρ σ n w fid args vs K hP hG hI ha h
    simp only [AE4] at h
    split at h
    · rename_i fn hf
      split at h
      · rename_i c hb hlen
        have hlen : args.length ≤ fn.ntmps := of_decide_eq_true hlen
        refine ⟨⟨fn, hf, pY hn hf, by simp [hb]⟩, ?_⟩
        subst hP
        let cx' : Cx := ⟨cx.P, cx.own, cx.w0, ρ, σ, w, cx.arg⟩
        have hI' : Inv cx' ρ σ n w := ⟨hI.boxes, hI.inj, hI.new, hI.rJ, hI.below, hI.j8, hI.low⟩
        refine calls_of_wp hf hb ?_
        have hr : Rel cx' fn.ntmps ρ (RA args σ n) { tmps := vs ++ Array.replicate (fn.ntmps - vs.size) undef, defers := [] } w := I4 hI' (bO.refl _ _ _ _) hG ha hlen
        refine wp_mono (xG hE hm hh ih c cx' rfl _ (RA args σ n) h _ _ w hr) ?_
        rintro e a' w' ⟨st', ρ', hr', hq, hf'⟩
        unfold BDV at hq
        split at hq
        · rename_i d σ' n' he hres
          obtain ⟨v, h1, h2, h3⟩ := AAX hr' hres
          simp only [Prod.mk.injEq] at h3
          obtain ⟨rfl, rfl⟩ := h3
          have hI2 : Inv cx ρ' st'.σ st'.n w' := ⟨hr'.inv.boxes, hr'.inv.inj, hr'.inv.new, hr'.inv.rJ, hr'.inv.below, hr'.inv.j8, hr'.inv.low⟩
          have hk2 : bO cx ρ ρ' σ st'.σ w w' := ⟨hr'.keeps.cell, hr'.keeps.size, hr'.keeps.own, hr'.keeps.loc, hr'.keeps.shape, hr'.keeps.ro⟩
          rcases nS he with rfl | rfl
          · exact ⟨hr'.defers, v, h1, v, ρ', d, st'.σ, st'.n, rfl, hI2, hk2, h2, hf'.fr.b, hq⟩
          · exact ⟨hr'.defers, v, h1, v, ρ', d, st'.σ, st'.n, rfl, hI2, hk2, h2, hf'.fr.b, hq⟩
        · exact hq.elim
      · exact h.elim
    · exact h.elim
def dW (C : iZ) (P : Program) (E : Env) (Hs : FuncId → Hint) (k : Nat) (f : FuncId) (args : List T) (R : T → Prop) : Prop := match P.funcs[f]? with
  | some fn => match fn.body, decide (args.length ≤ fn.ntmps) with
    | some c, true => sx C P E (AE4 C P E Hs k) (Hs f) fn.ntmps c (BD7 C P fn.results R) (st0 args)
    | _, _ => C.bad 703
  | none => C.bad 704
def NZ (C : iZ) (P : Program) (E : Env) (Hs : FuncId → Hint) (k : Nat) (f : FuncId) (args : List T) (R : List (List T) → Prop) : Prop := match P.funcs[f]? with
  | some fn => match fn.body, decide (args.length ≤ fn.ntmps) with
    | some c, true => sx C P E (AE4 C P E Hs k) (Hs f) fn.ntmps c (BD5 C P fn.results R) (st0 args)
    | _, _ => C.bad 703
  | none => C.bad 704
def BD6 (C : iZ) (P : Program) (c : Nat) (rs : Array ResultVar) (R : T → Prop) (e : Exit) (st : St) : Prop := match mF e, BAW P c rs st with
  | true, some cs => R (.agg cs)
  | _, _ => C.bad 705
def VJ (C : iZ) (P : Program) (E : Env) (Hs : FuncId → Hint) (k : Nat) (c : Nat) (f : FuncId) (args : List T) (R : T → Prop) : Prop := match P.funcs[f]? with
  | some fn => match fn.body, decide (args.length ≤ fn.ntmps) with
    | some cd, true => sx C P E (AE4 C P E Hs k) (Hs f) fn.ntmps cd (BD6 C P c fn.results R) (st0 args)
    | _, _ => C.bad 703
  | none => C.bad 704
def ANI : D → Bool
  | .p t => t.flat
  | _ => false
def VM : D → T
  | .p t => t
  | _ => .v undef
def A3Y (C : iZ) (σ : Nat → Option bC) (d : D) (K : T → Prop) : Prop := match d with
  | .p t => match eV t with
    | some (_, []) => K (.sl false [])
    | _ => C.zA t.flat (K t)
  | .own k => match σ k with
    | some (.arr false _ rows) => C.zA (rows.all fun r => r.all T.flat) (K (.sl false rows))
    | _ => C.bad 801
  | .map k => match σ k with
    | some (.map false es) => C.zA (es.all fun e => ANI e.2) (K (.mp (es.map fun e => (e.1, VM e.2))))
    | _ => C.bad 802
  | _ => C.bad 803
def AXD (C : iZ) (σ : Nat → Option bC) : List D → (List T → Prop) → Prop
  | [], K => K []
  | d :: l, K => A3Y C σ d fun t => AXD C σ l fun ts => K (t :: ts)
def BA0 (C : iZ) (P : Program) (rs : Array ResultVar) (R : T → Prop) (e : Exit) (st : St) : Prop := match mF e, vE P st rs.toList with
  | true, some [d] => A3Y C st.σ d R
  | true, some ds => AXD C st.σ ds fun ts => R (.cA ts)
  | _, _ => C.bad 804
def uS (C : iZ) (P : Program) (E : Env) (Hs : FuncId → Hint) (k : Nat) (f : FuncId) (args : List T) (R : T → Prop) : Prop := match P.funcs[f]? with
  | some fn => match fn.body, decide (args.length ≤ fn.ntmps) with
    | some c, true => sx C P E (AE4 C P E Hs k) (Hs f) fn.ntmps c (BA0 C P fn.results R) (st0 args)
    | _, _ => C.bad 703
  | none => C.bad 704
theorem AIN {cx : Cx} {nt : Nat} {ρ : Nat → Option Loc} {st : St} {a : Act} {w : World} (hr : Rel cx nt ρ st a w) (hn : cx.arg = none) {d : D} {v : Value} (hd : Rd w (Own cx ρ st.σ) ρ d v) {K : T → Prop} (h : A3Y bW st.σ d K) : ∃ t, K t ∧ cI w (fun b => b < cx.w0.heap.size) t v := by
  unfold A3Y at h
  split at h
  · rename_i t
    cases hd with
    | p _ _ hd =>
    split at h
    · rename_i f hrow
      refine ⟨_, h, ?_⟩
      have := kT hd hrow
      cases this with
      | cL _ a cap hf hn => exact .cL false a cap (by simp) hn
      | sl _ _ sz bJ off cap fc k1 k2 k3 k4 k5 k6 k7 k8 k9 => exact .cL false _ cap (by simp) (by simp)
    · obtain ⟨hf, h⟩ := h
      exact ⟨_, h, hd.E3 hf⟩
  · rename_i k
    split at h
    · rename_i z rows hσ
      obtain ⟨hf, h⟩ := h
      refine ⟨_, h, ?_⟩
      have this : cI w (fun _ => False) (.sl false rows) v := EH (own0 := fun _ => False) (τ := st.σ) hr.inv (fun b hb => hb.elim) (fun _ _ h => h) (fun _ _ _ _ _ _ h => h) 1 hd (by simp [iI, hσ])
      have flatc : ∀ i j (hi : i < rows.length) (hj : j < rows[i].length), rows[i][j].flat = true := fun i j hi hj => List.all_eq_true.1 (List.all_eq_true.1 hf _ (List.getElem_mem hi)) _ (List.getElem_mem hj)
      cases hd with
      | own _ l hl hL h1 h2 =>
        have hm := hr.inv.ZW hn k _ l hσ hl hL rfl
        generalize hvv : (Value.slice (some ⟨l.bJ, 0, none⟩) l.L l.C) = v at this
        cases this with
        | cL _ a cap hf hn => exact .cL false a cap (by simp) hn
        | sl _ _ sz bJ off cap f k1 k2 k3 k4 k5 k6 k7 k8 k9 =>
          have e : l.bJ = bJ := by
            injection hvv with e1 e2 e3
            injection e1 with e1
            injection e1
          exact .sl false rows sz bJ off cap f k1 k2 k3 (by show ¬ bJ < _; omega) k5 k6 k7 k8 (fun i j hi hj => (k9 i j hi hj).E3 (flatc i j hi hj))
      | dC _ l a hl hL =>
        generalize hvv : (Value.slice a 0 0) = v at this
        cases this with
        | cL _ a cap hf hn => exact .cL false a cap (by simp) hn
        | sl _ _ sz bJ off cap f k1 k2 k3 k4 k5 k6 k7 k8 k9 =>
          have e : rows = [] := by
            injection hvv with e1 e2 e3
            exact List.eq_nil_of_length_eq_zero e2.symm
          subst e
          exact .cL false _ cap (by simp) (by simp)
    · exact h.elim
  · rename_i k
    split at h
    · rename_i es hσ
      obtain ⟨hf, h⟩ := h
      refine ⟨_, h, ?_⟩
      obtain ⟨l', ents, hl', hL, ho, hE⟩ := hr.inv.L9 hσ
      cases hd with
      | map _ l hl =>
      have hll : l' = l := by rw [hl] at hl'; exact (Option.some.inj hl').symm
      subst hll
      have hm := hr.inv.ZW hn k _ l' hσ hl hL rfl
      have hlen : (es.map fun e => (e.1, VM e.2)).length = es.length := by simp
      have hex : ∀ i (hi : i < es.length), ∃ e, ents[i]? = some e ∧ e.key = es[i].1 ∧ e.born = i ∧ cI w (fun b => b < cx.w0.heap.size) (VM es[i].2) e.val := by
        intro i hi
        obtain ⟨e, a1, a2, a3, a4⟩ := hE.2 i hi
        have hp := List.all_eq_true.1 hf es[i] (List.getElem_mem hi)
        refine ⟨e, by rw [← Array.getElem?_toList]; exact a1, a2, by omega, ?_⟩
        generalize es[i].2 = d at hp a4
        cases d with
        | p t =>
          cases a4 with
          | p _ _ a4 => exact a4.E3 hp
        | _ => cases hp
      refine .mp _ l'.bJ ents (fun i => ents.getD i ⟨undef, undef, 0⟩) (by show ¬ l'.bJ < _; omega) ((hr.inv.new k l' hl).2 hL).1 (by rw [hlen]; exact ho) (by rw [hlen]; simpa using hE.1) (fun i hi => ?_) (fun i hi => ?_)
      · obtain ⟨e, a1, a2, a3, _⟩ := hex i (by omega)
        rw [show ents.getD i ⟨undef, undef, 0⟩ = e by rw [Array.getD_eq_getD_getElem?, a1]; rfl]
        exact ⟨a1, by simpa using a2, a3⟩
      · obtain ⟨e, a1, _, _, a4⟩ := hex i (by omega)
        rw [show ents.getD i ⟨undef, undef, 0⟩ = e by rw [Array.getD_eq_getD_getElem?, a1]; rfl]
        simpa using a4
    · exact h.elim
  · exact h.elim
theorem Z4 {cx : Cx} {nt : Nat} {ρ : Nat → Option Loc} {st : St} {a : Act} {w : World} (hr : Rel cx nt ρ st a w) (hn : cx.arg = none) : ∀ {ds : List D} {vs : List Value} {K : List T → Prop}, cY (Rd w (Own cx ρ st.σ) ρ) ds vs.toArray → AXD bW st.σ ds K → ∃ ts, K ts ∧ cY (cI w (fun b => b < cx.w0.heap.size)) ts vs.toArray
  | [], vs, K, ha, h => by
    have : vs = [] := by simpa using ha.1
    subst this
    exact ⟨[], h, cY.nil⟩
  | d :: ds, vs, K, ha, h => by
    cases vs with
    | nil => have := ha.1; simp at this
    | cons v vs =>
      have h0 := ha.2 0 (by simp)
      have ht : cY (Rd w (Own cx ρ st.σ) ρ) ds vs.toArray := ⟨by have := ha.1; simp at this ⊢; exact this, fun i hi => by
        have := ha.2 (i + 1) (by simp; omega)
        simpa using this⟩
      obtain ⟨t, k1, k2⟩ := AIN hr hn (by simpa using h0) h
      obtain ⟨ts, k3, k4⟩ := Z4 hr hn ht k1
      refine ⟨t :: ts, k3, ?_⟩
      have := (cY.one (R := cI w (fun b => b < cx.w0.heap.size)) k2).append k4
      simpa using this
theorem AZQ {cx : Cx} {nt : Nat} {ρ : Nat → Option Loc} {st : St} {a : Act} {w : World} (hr : Rel cx nt ρ st a w) (hn : cx.arg = none) {fn : Func} {R : T → Prop} {e : Exit} (h : BA0 bW cx.P fn.results R e st) :
    mF e = true ∧ ∃ v t, (results fn a.tmps).run cx.P w = .ok v w ∧ R t ∧ cI w (fun b => b < cx.w0.heap.size) t v := by
  have run : ∀ {ds : List D}, vE cx.P st fn.results.toList = some ds → ∃ vs : Array Value, (fn.results.mapM (uH a.tmps)).run cx.P w = .ok vs w ∧ cY (Rd w (Own cx ρ st.σ) ρ) ds vs := by
    intro ds hds
    obtain ⟨vs, h1, h2⟩ := nW hr hds
    refine ⟨vs.toArray, ?_, h2⟩
    rw [Array.mapM_eq_mapM_toList, Sem.run_map, h1]
    rfl
  unfold BA0 at h
  split at h
  · rename_i d he hd
    refine ⟨he, ?_⟩
    obtain ⟨vs, h1, h2⟩ := run hd
    have hs : vs.size = 1 := by simpa using h2.1
    have h3 := h2.2 0 (by simp)
    have h4 : vs.getD 0 undef = vs[0] := by simp [Array.getD, hs]
    rw [h4] at h3
    obtain ⟨t, k1, k2⟩ := AIN hr hn h3 h
    refine ⟨vs[0], t, ?_, k1, k2⟩
    rw [gW, Sem.run_bind, h1]
    simp [hs]
  · rename_i ds hne he hds
    refine ⟨he, ?_⟩
    obtain ⟨vs, h1, h2⟩ := run hds
    have hs : ¬ vs.size = 1 := by
      intro hs
      rw [h2.1] at hs
      obtain ⟨d, rfl⟩ := List.length_eq_one_iff.1 hs
      exact hne d rfl
    obtain ⟨ts, k1, k2⟩ := Z4 hr hn (vs := vs.toList) (by simpa using h2) h
    refine ⟨.tuple vs, .cA ts, ?_, k1, .cA ts vs (by simpa using k2.1) (by simpa using k2.2)⟩
    rw [gW, Sem.run_bind, h1]
    simp [hs]
  · exact h.elim
theorem Z3 (hE : aT P E) (hm : P.follows .mixedOrders = true) (hn : cG P = true) (hh : fF E) (k : Nat) {f : FuncId} {g : List T → Option T} (hex : ∃ fn c, P.funcs[f]? = some fn ∧ fn.body = some c)
    (h : ∀ args r, g args = some r → (∀ t ∈ args, Bd t) → uS bW P E Hs k f args (fun x => x = r)) : j5 P f g := by
  obtain ⟨fn, c, hf, hb⟩ := hex
  refine ⟨⟨fn, hf, pY hn hf, by simp [hb]⟩, fun w own args vs r hG hown ha hg => ?_⟩
  have hbd : ∀ t ∈ args, Bd t := by
    intro t ht
    obtain ⟨i, hi, rfl⟩ := List.mem_iff_getElem.1 ht
    exact (ha.2 i hi).bd
  have hs := h args r hg hbd
  simp only [uS, hf, hb] at hs
  split at hs
  · rename_i c' he hlen
    cases he
    have hlen : args.length ≤ fn.ntmps := of_decide_eq_true hlen
    let cx : Cx := OE P own w
    refine calls_of_wp hf hb ?_
    refine wp_mono (xG hE hm hh (uB hE hm hn hh k) c cx rfl _ (st0 args) hs _ _ w (I3 (P := P) (nt := fn.ntmps) hG hown ha hlen)) ?_
    rintro e a' w' ⟨st', ρ', hr', hq, _⟩
    obtain ⟨he, v, t, h1, rfl, h2⟩ := AZQ hr' rfl hq
    rcases nS he with rfl | rfl
    · exact ⟨hr'.defers, v, h1, v, rfl, h2, hr'.inv.below.toB⟩
    · exact ⟨hr'.defers, v, h1, v, rfl, h2, hr'.inv.below.toB⟩
  · exact hs.elim
theorem E6 (hE : aT P E) (hm : P.follows .mixedOrders = true) (hn : cG P = true) (hh : fF E) (k : Nat) {f : FuncId} {g : List T → Option T} (hex : ∃ fn c, P.funcs[f]? = some fn ∧ fn.body = some c)
    (h : ∀ args r, g args = some r → (∀ t ∈ args, Bd t) → dW bW P E Hs k f args (fun x => x = r)) : aO P f g := by
  obtain ⟨fn, c, hf, hb⟩ := hex
  refine ⟨⟨fn, hf, pY hn hf, by simp [hb]⟩, fun w own args vs r hG hown ha hg => ?_⟩
  have hbd : ∀ t ∈ args, Bd t := by
    intro t ht
    obtain ⟨i, hi, rfl⟩ := List.mem_iff_getElem.1 ht
    exact (ha.2 i hi).bd
  have hs := h args r hg hbd
  simp only [dW, hf, hb] at hs
  split at hs
  · rename_i c' he hlen
    cases he
    have hlen : args.length ≤ fn.ntmps := of_decide_eq_true hlen
    let cx : Cx := OE P own w
    refine calls_of_wp hf hb ?_
    refine wp_mono (xG hE hm hh (uB hE hm hn hh k) c cx rfl _ (st0 args) hs _ _ w (I3 (P := P) (nt := fn.ntmps) hG hown ha hlen)) ?_
    rintro e a' w' ⟨st', ρ', hr', hq, _⟩
    unfold BD7 at hq
    split at hq
    · rename_i r' he hres
      subst hq
      obtain ⟨v, h1, h2⟩ := AYN hr' hres
      rcases nS he with rfl | rfl
      · exact ⟨hr'.defers, v, h1, v, rfl, h2, hr'.inv.below.toB⟩
      · exact ⟨hr'.defers, v, h1, v, rfl, h2, hr'.inv.below.toB⟩
    · exact hq.elim
  · exact hs.elim
theorem LI (hE : aT P E) (hm : P.follows .mixedOrders = true) (hn : cG P = true) (hh : fF E) (k : Nat) {f : FuncId} {g : List T → Option (List (List T))} (hex : ∃ fn c, P.funcs[f]? = some fn ∧ fn.body = some c)
    (h : ∀ args r, g args = some r → (∀ t ∈ args, Bd t) → NZ bW P E Hs k f args (fun x => x = r)) : eR P f g := by
  obtain ⟨fn, c, hf, hb⟩ := hex
  refine ⟨⟨fn, hf, pY hn hf, by simp [hb]⟩, fun w own args vs r hG hown ha hg => ?_⟩
  have hbd : ∀ t ∈ args, Bd t := by
    intro t ht
    obtain ⟨i, hi, rfl⟩ := List.mem_iff_getElem.1 ht
    exact (ha.2 i hi).bd
  have hs := h args r hg hbd
  simp only [NZ, hf, hb] at hs
  split at hs
  · rename_i c' he hlen
    cases he
    have hlen : args.length ≤ fn.ntmps := of_decide_eq_true hlen
    let cx : Cx := OE P own w
    refine calls_of_wp hf hb ?_
    refine wp_mono (xG hE hm hh (uB hE hm hn hh k) c cx rfl _ (st0 args) hs _ _ w (I3 (P := P) (nt := fn.ntmps) hG hown ha hlen)) ?_
    rintro e a' w' ⟨st', ρ', hr', hq, _⟩
    unfold BD5 at hq
    split at hq
    · rename_i r' he hres
      subst hq
      obtain ⟨v, h1, h2, h3⟩ := AYO hr' rfl hres
      rcases nS he with rfl | rfl
      · exact ⟨hr'.defers, v, h1, v, rfl, hr'.inv.below.toB, h2, h3⟩
      · exact ⟨hr'.defers, v, h1, v, rfl, hr'.inv.below.toB, h2, h3⟩
    · exact hq.elim
  · exact hs.elim
theorem AOR (hE : aT P E) (hm : P.follows .mixedOrders = true) (hn : cG P = true) (hh : fF E) (k : Nat) {f : FuncId} {ci : Nat} {g : List T → Option T} (hex : ∃ fn c, P.funcs[f]? = some fn ∧ fn.body = some c)
    (h : ∀ args r, g args = some r → (∀ t ∈ args, Bd t) → VJ bW P E Hs k ci f args (fun x => x = r)) : J6 P f ci g := by
  obtain ⟨fn, c, hf, hb⟩ := hex
  refine ⟨⟨fn, hf, pY hn hf, by simp [hb]⟩, fun w own args vs r hG hown ha hg => ?_⟩
  have hbd : ∀ t ∈ args, Bd t := by
    intro t ht
    obtain ⟨i, hi, rfl⟩ := List.mem_iff_getElem.1 ht
    exact (ha.2 i hi).bd
  have hs := h args (.agg r) hg hbd
  simp only [VJ, hf, hb] at hs
  split at hs
  · rename_i c' he hlen
    cases he
    have hlen : args.length ≤ fn.ntmps := of_decide_eq_true hlen
    let cx : Cx := OE P own w
    refine calls_of_wp hf hb ?_
    refine wp_mono (xG hE hm hh (uB hE hm hn hh k) c cx rfl _ (st0 args) hs _ _ w (I3 (P := P) (nt := fn.ntmps) hG hown ha hlen)) ?_
    rintro e a' w' ⟨st', ρ', hr', hq, _⟩
    unfold BD6 at hq
    split at hq
    · rename_i r' he hres
      cases hq
      obtain ⟨vc, h1, h2, h3⟩ := AYQ hr' rfl hres
      rcases nS he with rfl | rfl
      · exact ⟨hr'.defers, _, h1, vc, rfl, hr'.inv.below.toB, h2, h3⟩
      · exact ⟨hr'.defers, _, h1, vc, rfl, hr'.inv.below.toB, h2, h3⟩
    · exact hq.elim
  · exact hs.elim
def AIP : Fn → Bool
  | .heap _ => false
  | _ => true
theorem aN : ∀ {l : List (FuncId × Fn)}, l.all (fun x => AIP x.2) = true → fF (Env.of l)
  | [], _, f, g, h => by simp [Env.of] at h
  | (k, x) :: l, hl, f, g, h => by
    simp only [List.all_cons, Bool.and_eq_true] at hl
    simp only [Env.of] at h
    split at h
    · cases h; simp [AIP] at hl
    · exact aN hl.2 f g h
end
end Go.Pv
