/-
  The symbolic executor, part g: code, and functions.
-/
import Derived.Test.YtpkaicahnkpkhaaGreatDoorPzkf
set_option linter.unusedSimpArgs false
namespace Go.Pv
open Go Go.RowKit
inductive LH where
  | none
  | inv (its : List It)
  | alt (a b : List It)
  | AG8 (n : Nat)
  | alts (l : List (List It))
structure Hint where
  loop : Nat → LH
  join : Nat → Nat → Option (List It)
  ent : Nat → Ent
def aS : Hint := ⟨fun _ => .none, fun _ _ => none, fun _ => none⟩
def qT : Code → Option Nat
  | .region id _ _ => some id
  | .seq a b => match qT a with
    | some i => some i
    | none => qT b
  | .cond _ a b => match qT a with
    | some i => some i
    | none => qT b
  | .block _ b => qT b
  | .scope b => qT b
  | .loop b => qT b
  | _ => none
def F7 : Code → Option Nat
  | .region id _ _ => some id
  | .seq a b => match F7 b with
    | some i => some i
    | none => F7 a
  | .cond _ a b => match F7 b with
    | some i => some i
    | none => F7 a
  | .block _ b => F7 b
  | .scope b => F7 b
  | .loop b => F7 b
  | _ => none
def YO (i : Nat) : List Oper → Bool
  | [] => false
  | o :: l => (match o.dst with
    | some t => t == i
    | none => false) || YO i l
def NH : Code → Nat → Bool
  | .region _ ops _, i => YO i ops.toList
  | .seq a b, i => NH a i || NH b i
  | .cond _ a b, i => NH a i || NH b i
  | .block _ b, i => NH b i
  | .scope b, i => NH b i
  | .loop b, i => NH b i
  | _, _ => false
def ends (t : Option Nat) : Code → Bool
  | .skip => t.isNone
  | .label _ => t.isNone
  | .region _ _ _ => t.isNone
  | .seq a b => (ends none a && ends t b) || (t.isSome && ends t a)
  | .cond _ a b => ends t a || ends t b
  | .block id b => match t with
    | none => ends none b || ends (some id) b
    | some j => ends (some j) b
  | .loop b => t.isSome && ends t b
  | .scope b => ends t b
  | .exit id => match t with
    | none => false
    | some j => j == id
  | _ => false
def fD (t : Option Nat) : Code → Nat → Bool
  | .region _ ops _, i => YO i ops.toList
  | .seq a b, i => (ends none a && ends t b && (fD none a i || fD t b i)) || (t.isSome && ends t a && fD t a i)
  | .cond _ a b, i => (ends t a && fD t a i) || (ends t b && fD t b i)
  | .block id b, i => match t with
    | none => (ends none b && fD none b i) || (ends (some id) b && fD (some id) b i)
    | some j => fD (some j) b i
  | .loop b, i => (ends none b && fD none b i) || fD t b i
  | .scope b, i => fD t b i
  | _, _ => false
def mW (c : Code) : Exit → Nat → Bool
  | .normal => fD none c
  | .exit id => fD (some id) c
  | _ => NH c
def iG (c : Code) : Exit → Bool
  | .normal => ends none c
  | .exit id => ends (some id) c
  | _ => true
theorem KS : ∀ {l : List Oper} {o : Oper} {t : Tmp}, o ∈ l → o.dst = some t → YO t l = true
  | [], _, _, h, _ => by cases h
  | a :: l, o, t, h, ht => by
    simp only [YO, Bool.or_eq_true]
    rcases List.mem_cons.1 h with rfl | h
    · exact .inl (by simp [ht])
    · exact .inr (KS h ht)
def AW6 (H : Hint) (a : Code) : Option (List It) := match qT a, F7 a with
  | some i, some j => H.join i j
  | _, _ => none
def fits (st : St) : List It → Bool
  | [] => true
  | .arr k _ _ :: l => (match st.σ k with
    | some (.arr _ _ _) => true
    | _ => false) && fits st l
  | .own t _ _ :: l => (match st.s t with
    | .own _ => true
    | .p t => (match eX t with
      | some (true, []) => true
      | _ => false)
    | _ => false) && fits st l
  | .box k _ :: l => (match st.σ k with
    | some (.rows _ _) => true
    | _ => false) && fits st l
  | .map k _ _ _ :: l => (match st.σ k with
    | some (.map _ _) => true
    | _ => false) && fits st l
  | .dQ k :: l => (match st.σ k with
    | some (.dQ _ _ _ _) => true
    | _ => false) && fits st l
  | _ :: l => fits st l
def AXM (h : LH) (st : St) : Option (List It) := match h with
  | .inv its => some its
  | .alt a b => match fits st a with
    | true => some a
    | false => some b
  | .alts l => l.find? fun its => fits st its
  | _ => none
def AW9 (H : Hint) (b : Code) : LH := match qT b with
  | some i => H.loop i
  | none => .none
section
variable (C : mT) (P : Program) (E : Env) (I : Inl) (H : Hint) (nt : Nat)
def AVX (ops : List Oper) (st : St) : Nat → Operand → Option Nat
  | 0, _ => none
  | f + 1, x => match ev (bP true st.s) x with
    | .ptr k _ _ => some k
    | _ => match x with
      | .tmp t => match ops.find? (fun o => o.dst == some t) with
        | some o => match o.op with
          | .fieldAddr _ a _ => AVX ops st f a
          | _ => none
        | none => none
      | _ => none
def A0A (ops : Array Oper) (st : St) : Option Nat := ops.toList.foldl (fun m o => match o.op with
  | .store _ a _ => match AVX ops.toList st 6 a, m with
    | some k, some m => some (min k m)
    | _, _ => none
  | _ => m) (some st.n)
def AZP (id : Nat) (ops : Array Oper) (draw : Bool) (st : St) (K : St → Prop) : Prop :=
  match draw with
  | false => evK C P E nt I (H.ent id) false ops ops.toList st K
  | true => match oT E ops with
    | true => evK C P E nt I none true ops ops.toList st K
    | false => match pD false E ops with
      | true => GQ false C P E nt ops st.n (zD false E ops) (jT ops st) K
      | false => match pD true E ops && AXF ops, A0A ops st with
       | true, some base => match Nat.ble base st.n with
        | true => GQ true C P E nt ops base (zD true E ops) (jT ops st) K
        | false => C.bad 510
       | _, _ => match Nat.ble ops.size 7 with
        | true => anyS C P E nt ops K ops.size (Array.replicate ops.size false) st
        | false => C.bad 501
def AKC (its : List It) (st₀ : St) (X : DF.den its → Prop) (Q : Exit → St → Prop) : Exit → St → Prop
  | .normal, st => match GG its st₀ st with
    | true => APJ C st₀ st its X
    | false => C.bad 502
  | e, st => Q e (UX its st₀ st)
def unr (F : (Exit → St → Prop) → St → Prop) (Q : Exit → St → Prop) : Nat → St → Prop
  | 0, _ => C.bad 503
  | n + 1, st => F (fun e st' => match e with
    | .normal => unr F Q n st'
    | e => Q e st') st
def AT3 (c : Operand) (b : Bool) (st : St) : St := match c with
  | .tmp t => match st.s t with
    | .p (.v (.bool _)) => ⟨cD st.s t (.p (.v (.bool b))), st.σ, st.n⟩
    | _ => st
  | _ => st
def sx : Code → (Exit → St → Prop) → St → Prop
  | .skip, Q, st => Q .normal st
  | .label _, Q, st => Q .normal st
  | .region id ops draw, Q, st => AZP C P E I H nt id ops draw st (Q .normal)
  | .seq a b, Q, st => match AW6 H a with
    | none => sx a (ABS (sx b Q) Q) st
    | some its => C.join (DF.den its) (fun X => sx a (AKC C its st X Q) (NV its st)) fun y => sx b Q (UX its st (wA its (fD none a) st y))
  | .cond c t e, Q, st => match ev (bP true st.s) c with
    | .p (.v (.bool b)) => aC b (sx t Q (AT3 c true st)) (sx e Q (AT3 c false st))
    | _ => C.bad 504
  | .block id b, Q, st => sx b (DJ id Q) st
  | .loop b, Q, st => match AW9 H b with
    | .AG8 n => unr C (sx b) Q n st
    | h => match AXM h st with
      | some its => match GG its st (NV its st) && ends none b with
        | true => APJ C st (NV its st) its fun y => C.loop (DF.den its) (fun X y => sx b (AKC C its st X Q) (wA its (fD none b) st y)) y
        | false => C.bad 505
      | none => C.bad 506
  | .exit id, Q, st => Q (.exit id) st
  | .ret, Q, st => Q .ret st
  | .scope b, Q, st => sx b (TT Q) st
  | _, _, _ => C.bad 507
end
theorem AIC {c : Operand} {b : Bool} {st : St} (h : ev (bP true st.s) c = .p (.v (.bool b))) : AT3 c b st = st := by
  unfold AT3
  split
  · rename_i t
    split
    · rename_i b' hb
      have : b' = b := by
        simp only [ev, bP, hb, strip] at h
        cases h; rfl
      subst this
      have : cD st.s t (.p (.v (.bool b'))) = st.s := by
        funext i
        by_cases e : i = t
        · subst e; rw [M3, hb]
        · rw [bH _ _ e]
      rw [this]
    · rfl
  · rfl
def yY (P : Program) (b : Code) (Q : Exit → Act → World → Prop) (a : Act) (w : World) : Prop :=
  ∀ (fb : Frame) (k : List Item) (cs : List Frame), ∃ e a' w', Q e a' w' ∧ Arrives P (lone (fb.at a (.code b :: .inLoop b :: k)) cs w) fb k cs e a' w'
theorem yY.wp {P : Program} {b : Code} {Q : Exit → Act → World → Prop} {a : Act} {w : World} (h : yY P b Q a w) : (Code.loop b).wp P Q a w := by
  intro fb k cs
  obtain ⟨e, a', w', hq, harr⟩ := h fb k cs
  exact ⟨e, a', w', hq, .of_steps (.one step_loop) harr⟩
theorem yY.round {P : Program} {b : Code} {Q : Exit → Act → World → Prop} {a : Act} {w : World} (h : b.wp P (fun e a w => match e with
    | .normal => yY P b Q a w
    | e => Q e a w) a w) : yY P b Q a w := by
  intro fb k cs
  obtain ⟨e, a₁, w₁, hq, harr⟩ := h fb (.inLoop b :: k) cs
  cases e with
  | normal =>
    obtain ⟨e₂, a₂, w₂, hq₂, harr₂⟩ := hq fb k cs
    exact ⟨e₂, a₂, w₂, hq₂, .of_steps (Steps.trans harr (.one step_inLoop)) harr₂⟩
  | exit id => exact ⟨_, a₁, w₁, hq, .pass (x := .inLoop b) rfl (fun _ _ => .inl (by simp)) harr⟩
  | goto l => exact ⟨_, a₁, w₁, hq, .pass (x := .inLoop b) rfl (fun _ _ => .inl (by simp)) harr⟩
  | ret => exact ⟨_, a₁, w₁, hq, .pass (x := .inLoop b) rfl (fun _ _ => .inl (by simp)) harr⟩
  | panic ch => exact ⟨_, a₁, w₁, hq, .pass (x := .inLoop b) rfl (fun _ _ => .inl (by simp)) harr⟩
  | outgrown => exact ⟨_, a₁, w₁, hq, .pass (x := .inLoop b) rfl (fun _ _ => .inl (by simp)) harr⟩
section
variable {P : Program} {E : Env} {I : Inl} {H : Hint} {nt : Nat}
theorem Fr.AVR {its : List It} {A B D : Nat → Bool} {st₀ st : St} {y : DF.den its} (h : Fr B (wA its A st₀ y) st) (hD : ∀ i, D i = false → A i = false ∧ B i = false) : Fr D st₀ (UX its st₀ st) ∧ ∀ k x, kept its st₀ k = true → st₀.σ k = some x → st.σ k = some (lock x) := by
  have hk : ∀ k x, kept its st₀ k = true → st₀.σ k = some x → st.σ k = some (lock x) := by
    intro k x hke hx
    obtain ⟨hlt, x0, h0, h1, _⟩ := jR hke
    rw [hx] at h0; cases h0
    exact h.b.2 k (lock x) (by show k < st₀.n + r7 its; omega) (by simp only [wA, decide_eq_true hlt, hke, hx, Option.map_some]) h1
  refine ⟨⟨fun i hi => ?_, ?_, fun k x hlt hx hw => ?_⟩, hk⟩
  · obtain ⟨h1, h2⟩ := hD i hi
    have := h.s i h2
    simp only [wA, h1] at this
    exact this
  · have := h.b.1
    simp only [wA] at this
    show st₀.n ≤ st.n
    omega
  · have hke := AA (its := its) hlt hx hw
    simp only [UX, hke, hx]
theorem Fr.AZL {its : List It} {A : Nat → Bool} {st₀ st : St} (h : Fr A (NV its st₀) st) : Fr A st₀ (UX its st₀ st) ∧ ∀ k x, kept its st₀ k = true → st₀.σ k = some x → st.σ k = some (lock x) := by
  have hk : ∀ k x, kept its st₀ k = true → st₀.σ k = some x → st.σ k = some (lock x) := by
    intro k x hke hx
    obtain ⟨hlt, x0, h0, h1, _⟩ := jR hke
    rw [hx] at h0; cases h0
    exact h.b.2 k (lock x) hlt (by simp only [NV, hke, hx, Option.map_some]) h1
  refine ⟨⟨fun i hi => h.s i hi, h.b.1, fun k x hlt hx hw => ?_⟩, hk⟩
  have hke := AA (its := its) hlt hx hw
  simp only [UX, hke, hx]
theorem ATS {its : List It} {A : Nat → Bool} {st₀ : St} {y : DF.den its} : Fr A st₀ (UX its st₀ (wA its A st₀ y)) := by
  refine ⟨fun i hi => ?_, ?_, fun k x hlt hx hw => ?_⟩
  · simp only [UX, wA, hi]
  · show st₀.n ≤ st₀.n + r7 its
    omega
  · have hke := AA (its := its) hlt hx hw
    simp only [UX, hke, hx]
theorem ATX {its : List It} {A : Nat → Bool} {st₀ : St} {y : DF.den its} : ∀ k x, kept its st₀ k = true → st₀.σ k = some x → (wA its A st₀ y).σ k = some (lock x) := by
  intro k x hke hx
  obtain ⟨hlt, _⟩ := jR hke
  simp only [wA, decide_eq_true hlt, hke, hx, Option.map_some]
theorem AT4 {its : List It} {st₀ : St} : ∀ k x, kept its st₀ k = true → st₀.σ k = some x → (NV its st₀).σ k = some (lock x) := by
  intro k x hke hx
  simp only [NV, hke, hx, Option.map_some]
theorem AD3 {cx : Cx} {its : List It} {A : Nat → Bool} {st₀ st : St} {y : DF.den its} {ρ₀ ρ : Nat → Option Loc} {a₀ a : Act} {w₀ w : World} (hR0 : Rel cx nt ρ₀ st₀ a₀ w₀) (hR : Rel (GU cx its st₀ ρ₀ w₀) nt ρ st a w) (hs : ∀ i, A i = false → st.s i = st₀.s i)
    (hk : ∀ k x, kept its st₀ k = true → st₀.σ k = some x → st.σ k = some (lock x)) (hok : GG its st₀ st = true) (hy : AHP st₀.n st₀ st its y) : ∃ ρ', Rel (GU cx its st₀ ρ₀ w₀) nt ρ' (wA its A st₀ y) a w := by
  have hdom : ∀ k l, ρ₀ k = some l → k < st₀.n := fun k l hl => (hR0.inv.new k l hl).1
  refine ASZ hR (fun i _ => (hR0.lP i).blw hdom) (fun k x hx => ?_) hdom (fun k x hx hw => ?_) hs hk hok hy
  · obtain ⟨l, _, hb⟩ := hR0.inv.boxes k x hx
    exact hb.blw hdom
  · change (NV its st₀).σ k = some x at hx
    cases hke : kept its st₀ k with
    | true => rfl
    | false =>
      simp only [NV, hke] at hx
      obtain ⟨l, hl, _⟩ := hR0.inv.boxes k x hx
      rw [AA (hdom k l hl) hx hw] at hke
      cases hke
theorem L1 {its : List It} {st₀ st : St} (h : GG its st₀ st = true) : GV st₀.n its = true := by
  unfold GG at h
  rw [Bool.and_eq_true] at h
  exact h.2
theorem FT {its : List It} {st₀ st : St} {X : DF.den its → Prop} {Q : Exit → St → Prop} (h : AKC aX its st₀ X Q .normal st) : GG its st₀ st = true ∧ ∃ y, X y ∧ AHP st₀.n st₀ st its y := by
  simp only [AKC] at h
  split at h
  · rename_i hok
    exact ⟨hok, K1 (L1 hok) h⟩
  · exact h.elim
theorem KY {its : List It} {st₀ st : St} {X : DF.den its → Prop} {Q : Exit → St → Prop} {e : Exit} (he : e ≠ .normal) (h : AKC aX its st₀ X Q e st) : Q e (UX its st₀ st) := by
  cases e <;> first | exact h | exact absurd rfl he
theorem YA {t : Option Nat} : ∀ {c : Code} {i : Nat}, NH c i = false → fD t c i = false := by
  intro c
  induction c generalizing t with
  | seq a b iha ihb =>
    intro i h
    simp only [NH, Bool.or_eq_false_iff] at h
    simp only [fD, iha (t := none) h.1, iha (t := t) h.1, ihb (t := t) h.2, Bool.or_false, Bool.and_false]
  | cond c a b iha ihb =>
    intro i h
    simp only [NH, Bool.or_eq_false_iff] at h
    simp only [fD, iha (t := t) h.1, ihb (t := t) h.2, Bool.or_false, Bool.and_false]
  | block id b ih =>
    intro i h
    simp only [NH] at h
    cases t with
    | none => simp only [fD, ih (t := none) h, ih (t := some id) h, Bool.and_false, Bool.or_false]
    | some j => simp only [fD, ih (t := some j) h]
  | loop b ih =>
    intro i h
    simp only [NH] at h
    simp only [fD, ih (t := none) h, ih (t := t) h, Bool.and_false, Bool.or_false]
  | region id ops draw => intro i h; exact h
  | scope b ih =>
    intro i h
    simp only [NH] at h
    simp only [fD, ih (t := t) h]
  | _ => intro i h; rfl
structure FrE (c : Code) (e : Exit) (st st' : St) : Prop where
  fr : Fr (mW c e) st st'
  ok : iG c e = true
theorem MZ (hE : aF P E) (hm : P.follows .mixedOrders = true) (hh : j4 E) (hI : AD2 P I) : ∀ (c : Code) (cx : Cx), cx.P = P → ∀ (Q : Exit → St → Prop) (st : St), sx aX P E I H nt c Q st → AW cx nt c (fun e st' => Q e st' ∧ FrE c e st st') st := by
  intro c
  induction c with
  | skip => exact fun cx hP Q st h ρ a w hr => wp_skip ⟨st, ρ, hr, h, Fr.refl _ _, rfl⟩
  | label l => exact fun cx hP Q st h ρ a w hr => wp_label ⟨st, ρ, hr, h, Fr.refl _ _, rfl⟩
  | region id ops draw =>
    intro cx hP Q st h
    subst hP
    have hA : ∀ o ∈ ops.toList, ∀ t, o.dst = some t → mW (.region id ops draw) .normal t = true := fun o ho t ht => KS ho ht
    simp only [sx, AZP] at h
    split at h
    · intro ρ a w hr
      refine wp_region ?_
      have := w3 (Q := sD cx nt fun e st' => Q e st' ∧ FrE (.region id ops false) e st st') hE hh hI (fun st' ρ a w hr' hf hk => ⟨st', ρ, hr', hk, hf, rfl⟩) ops.toList 0 st ρ a w (by simp) hA (Fr.refl _ _) hr h
      rw [List.range_eq_range']
      simpa using this
    · split at h
      · rename_i hord
        obtain ⟨st', h1, h2, h3⟩ := APH hh ops.toList st hA (Fr.refl _ _) h
        exact AG9 hE hm hord h1 ⟨h3, h2, rfl⟩
      · split at h
        · rename_i hord
          obtain ⟨st', h1, h2, h3⟩ := SN hh hA (zD false E ops) (jT ops st) (Fr.refl _ _) h
          have hroom : Fr (mW (.region id ops true) .normal) st (jT ops st) := ⟨fun _ _ => rfl, r8.same (n' := (jT ops st).n) (Nat.le_add_right _ _)⟩
          exact U2 hE hm hord h1 ⟨h3, hroom.trans h2, rfl⟩
        · split at h
          · rename_i hord hlow
            split at h
            · rename_i hle
              obtain ⟨st', h1, h2, h3⟩ := SN hh hA (zD true E ops) (jT ops st) (Fr.refl _ _) h
              have hroom : Fr (mW (.region id ops true) .normal) st (jT ops st) := ⟨fun _ _ => rfl, r8.same (n' := (jT ops st).n) (Nat.le_add_right _ _)⟩
              rw [Bool.and_eq_true] at hord
              exact ANO hE hm (Nat.le_of_ble_eq_true hle) hord.2 hord.1 h1 ⟨h3, hroom.trans h2, rfl⟩
            · exact h.elim
          split at h
          · refine AV1 hE hm ?_
            have := XX hh hA ops.size (Array.replicate ops.size false) st (Fr.refl _ _) h
            exact OO (fun s hs => ⟨hs.2, hs.1, rfl⟩) this
          · exact h.elim
  | seq a b iha ihb =>
    intro cx hP Q st h
    have fab : ∀ {e : Exit} {st st1 st2 : St}, Fr (fD none a) st st1 → ends none a = true → FrE b e st1 st2 → FrE (.seq a b) e st st2 := by
      intro e st st1 st2 h1 h2 h3
      have hends : iG (.seq a b) e = true := by
        have := h3.ok
        cases e <;> simp only [iG, ends] at this ⊢ <;> simp [h2, this]
      have hi : ∀ i, mW (.seq a b) e i = false → fD none a i = false ∧ mW b e i = false := by
        intro i hi
        have h4 := h3.ok
        cases e <;> simp only [iG, mW, fD, NH] at hi h4 ⊢ <;> simp only [h2, h4, Bool.true_and, Bool.or_eq_false_iff] at hi <;> first | exact hi.1 | exact ⟨YA hi.1, hi.2⟩
      exact ⟨(h1.mono fun i h => (hi i h).1).trans (h3.fr.mono fun i h => (hi i h).2), hends⟩
    have fa : ∀ {e : Exit} {st st1 : St}, e ≠ .normal → iG a e = true → Fr (mW a e) st st1 → FrE (.seq a b) e st st1 := by
      intro e st st1 hne h2 h1
      refine ⟨h1.mono fun i hi => ?_, ?_⟩
      · cases e <;> simp only [iG, mW, fD, NH] at hi h2 ⊢
        · exact absurd rfl hne
        · simp only [h2, Option.isSome_some, Bool.true_and, Bool.or_eq_false_iff] at hi; exact hi.2
        all_goals (simp only [Bool.or_eq_false_iff] at hi; exact hi.1)
      · cases e <;> simp only [iG, ends] at h2 ⊢
        · exact absurd rfl hne
        · simp [h2]
    simp only [sx] at h
    split at h
    · intro ρ act w hr
      refine wp_seq (wp_mono (iha cx hP _ st h ρ act w hr) ?_)
      rintro e a' w' ⟨st', ρ', hr', hq, hf⟩
      by_cases he : e = .normal
      · subst he
        refine wp_mono (ihb cx hP Q st' hq ρ' a' w' hr') ?_
        rintro e2 a2 w2 ⟨st2, ρ2, hr2, hq2, hf2⟩
        exact ⟨st2, ρ2, hr2, hq2, fab hf.fr hf.ok hf2⟩
      · have hp : sD cx nt (fun e st' => Q e st' ∧ FrE (.seq a b) e st st') e a' w' := ⟨st', ρ', hr', by cases e <;> first | exact absurd rfl he | exact hq, fa he hf.ok hf.fr⟩
        cases e <;> first | exact absurd rfl he | exact hp
    · rename_i its hj
      intro ρ act w hr
      have h : sx aX P E I H nt a (AKC aX its st (fun y => sx aX P E I H nt b Q (UX its st (wA its (fD none a) st y))) Q) (NV its st) := h
      refine wp_seq ?_
      have h1 := iha (GU cx its st ρ w) hP _ _ h ρ act w (AQM hr)
      refine wp_mono h1 ?_
      rintro e a' w' ⟨st', ρ', hr', hq, hf⟩
      obtain ⟨hf1, hk⟩ := hf.fr.AZL
      by_cases he : e = .normal
      · subst he
        obtain ⟨hok, y, hX, hy⟩ := FT hq
        obtain ⟨ρ2, hr2⟩ := AD3 (A := fD none a) hr hr' (fun i hi => hf.fr.s i hi) hk hok hy
        have hr3 := AG7 hr hr2 ATX
        refine wp_mono (ihb cx hP Q _ hX ρ2 a' w' hr3) ?_
        rintro e2 a2 w2 ⟨st2, ρ2, hr2, hq2, hf2⟩
        exact ⟨st2, ρ2, hr2, hq2, fab ATS hf.ok hf2⟩
      · have := KY he hq
        have hp : sD cx nt (fun e st' => Q e st' ∧ FrE (.seq a b) e st st') e a' w' := ⟨_, ρ', AG7 hr hr' hk, this, fa he hf.ok hf1⟩
        cases e <;> first | exact absurd rfl he | exact hp
  | cond c t e iht ihe =>
    intro cx hP Q st h ρ a w hr
    simp only [sx] at h
    split at h
    · rename_i b hb
      have hev := hr.evS c
      rw [hb] at hev
      have hval : a.eval c = .bool b := by
        generalize a.eval c = q at hev ⊢
        cases hev with
        | p _ _ h => cases h; rfl
      refine wp_cond hval ?_
      rw [pW] at h
      have f1 : ∀ {x : Exit} {st st1 : St}, FrE t x st st1 → FrE (.cond c t e) x st st1 := by
        intro x st st1 hf
        have h2 := hf.ok
        refine ⟨hf.fr.mono fun i hi => ?_, ?_⟩
        · cases x <;> simp only [iG, mW, fD, NH] at hi h2 ⊢ <;> simp only [h2, Bool.true_and, Bool.or_eq_false_iff] at hi <;> exact hi.1
        · cases x <;> simp only [iG, ends] at h2 ⊢ <;> simp [h2]
      have f2 : ∀ {x : Exit} {st st1 : St}, FrE e x st st1 → FrE (.cond c t e) x st st1 := by
        intro x st st1 hf
        have h2 := hf.ok
        refine ⟨hf.fr.mono fun i hi => ?_, ?_⟩
        · cases x <;> simp only [iG, mW, fD, NH] at hi h2 ⊢ <;> simp only [h2, Bool.true_and, Bool.or_eq_false_iff] at hi <;> exact hi.2
        · cases x <;> simp only [iG, ends] at h2 ⊢ <;> simp [h2]
      cases b with
      | true =>
        rw [if_pos rfl]
        refine wp_mono (iht cx hP Q st (by have := h.1 rfl; rwa [AIC hb] at this) ρ a w hr) ?_
        rintro e a' w' ⟨st', ρ', hr', hq, hf⟩
        exact ⟨st', ρ', hr', hq, f1 hf⟩
      | false =>
        rw [if_neg (by simp)]
        refine wp_mono (ihe cx hP Q st (by have := h.2 rfl; rwa [AIC hb] at this) ρ a w hr) ?_
        rintro e a' w' ⟨st', ρ', hr', hq, hf⟩
        exact ⟨st', ρ', hr', hq, f2 hf⟩
    · exact h.elim
  | block id b ih =>
    intro cx hP Q st h ρ a w hr
    refine wp_block (wp_mono (ih cx hP _ st h ρ a w hr) ?_)
    rintro e a' w' ⟨st', ρ', hr', hq, hf⟩
    have h2 := hf.ok
    cases e with
    | exit id' =>
      simp only [DJ] at hq
      simp only [Exit.inBlock]
      split at hq
      · rename_i e
        rw [if_pos e]
        subst e
        refine ⟨st', ρ', hr', hq, hf.fr.mono fun i hi => ?_, ?_⟩
        · simp only [iG, mW, fD] at hi h2 ⊢
          simp only [h2, Bool.true_and, Bool.or_eq_false_iff] at hi; exact hi.2
        · simp only [iG, ends] at h2 ⊢; simp [h2]
      · rename_i e
        rw [if_neg e]
        exact ⟨st', ρ', hr', hq, hf.fr.mono fun i hi => by simpa only [mW, fD] using hi, by simpa only [iG, ends] using h2⟩
    | normal =>
      refine ⟨st', ρ', hr', hq, hf.fr.mono fun i hi => ?_, ?_⟩
      · simp only [iG, mW, fD] at hi h2 ⊢
        simp only [h2, Bool.true_and, Bool.or_eq_false_iff] at hi; exact hi.1
      · simp only [iG, ends] at h2 ⊢; simp [h2]
    | _ => exact ⟨st', ρ', hr', hq, hf.fr.mono fun i hi => by simpa only [mW, NH] using hi, rfl⟩
  | loop b ih =>
    intro cx hP Q st h ρ a w hr
    have fl : ∀ {e : Exit}, e ≠ .normal → iG b e = true → iG (.loop b) e = true ∧ ∀ i, mW (.loop b) e i = false → (ends none b = true → fD none b i = false) ∧ mW b e i = false := by
      intro e hne h2
      refine ⟨?_, fun i hi => ?_⟩
      · cases e <;> simp only [iG, ends] at h2 ⊢
        · exact absurd rfl hne
        · simp [h2]
      · cases e <;> simp only [mW, fD, NH] at hi ⊢
        · exact absurd rfl hne
        · simp only [Bool.or_eq_false_iff] at hi
          exact ⟨fun h => by simpa [h] using hi.1, hi.2⟩
        all_goals exact ⟨fun _ => YA hi, hi⟩
    simp only [sx] at h
    split at h
    · rename_i n hl
      have key : ∀ (n : Nat) (st1 : St) (ρ : Nat → Option Loc) (a : Act) (w : World), Rel cx nt ρ st1 a w → (st1 = st ∨ ends none b = true) → Fr (fD none b) st st1 → unr aX (sx aX P E I H nt b) Q n st1 → yY cx.P b (sD cx nt fun e st' => Q e st' ∧ FrE (.loop b) e st st') a w := by
        intro n
        induction n with
        | zero => intro st1 ρ a w hr _ hf h; exact h.elim
        | succ n ihn =>
          intro st1 ρ a w hr hor hf h
          refine yY.round (wp_mono (ih cx hP _ st1 h ρ a w hr) ?_)
          rintro e a2 w2 ⟨st2, ρ2, hr2, hq2, hf2⟩
          by_cases he : e = .normal
          · subst he
            exact ihn st2 ρ2 a2 w2 hr2 (.inr hf2.ok) (hf.trans hf2.fr) hq2
          · obtain ⟨g1, g2⟩ := fl he hf2.ok
            have hq2' : Q e st2 := by cases e <;> first | exact absurd rfl he | exact hq2
            have hfr : Fr (mW (.loop b) e) st st2 := by
              rcases hor with rfl | hor
              · exact hf2.fr.mono fun i hi => (g2 i hi).2
              · exact (hf.mono fun i hi => (g2 i hi).1 hor).trans (hf2.fr.mono fun i hi => (g2 i hi).2)
            have hp : sD cx nt (fun e st' => Q e st' ∧ FrE (.loop b) e st st') e a2 w2 := ⟨st2, ρ2, hr2, hq2', hfr, g1⟩
            cases e <;> first | exact absurd rfl he | exact hp
      exact (key n st ρ a w hr (.inl rfl) (Fr.refl _ _) h).wp
    · split at h
      · rename_i its hl
        split at h
        · rename_i hok
          obtain ⟨hok, hnn⟩ := (Bool.and_eq_true _ _).mp hok
          obtain ⟨y0, hloop, hy0⟩ := K1 (L1 hok) h
          have hr1 := AQM (its := its) hr
          obtain ⟨ρ1, hr2⟩ := AD3 (A := fD none b) hr hr1 (fun i _ => rfl) AT4 hok hy0
          have key := hloop (fun y => ∀ ρ' a' w', Rel (GU cx its st ρ w) nt ρ' (wA its (fD none b) st y) a' w' → yY cx.P b (sD cx nt fun e st' => Q e st' ∧ FrE (.loop b) e st st') a' w') (by
            intro y hb ρ' a' w' hr'
            refine yY.round (wp_mono (ih (GU cx its st ρ w) hP _ _ hb ρ' a' w' hr') ?_)
            rintro e a2 w2 ⟨st2, ρ2, hr2, hq2, hf2⟩
            by_cases he : e = .normal
            · subst he
              obtain ⟨hf1, hk⟩ := hf2.fr.AVR (D := fD none b) fun i hi => ⟨hi, hi⟩
              obtain ⟨hok2, y2, hX, hy2⟩ := FT hq2
              obtain ⟨ρ3, hr3⟩ := AD3 (A := fD none b) hr hr2 (fun i hi => hf1.s i hi) hk hok2 hy2
              exact hX ρ3 a2 w2 hr3
            · obtain ⟨g1, g2⟩ := fl he hf2.ok
              by_cases hn : ends none b = true
              · obtain ⟨hf1, hk⟩ := hf2.fr.AVR (D := mW (.loop b) e) fun i hi => ⟨(g2 i hi).1 hn, (g2 i hi).2⟩
                have := KY he hq2
                have hp : sD cx nt (fun e st' => Q e st' ∧ FrE (.loop b) e st st') e a2 w2 := ⟨_, ρ2, AG7 hr hr2 hk, this, hf1, g1⟩
                cases e <;> first | exact absurd rfl he | exact hp
              · exact absurd hnn hn)
          exact (key ρ1 a w hr2).wp
        · exact h.elim
      · exact h.elim
  | exit id => exact fun cx hP Q st h ρ a w hr => wp_exit ⟨st, ρ, hr, h, Fr.refl _ _, by simp [iG, ends]⟩
  | ret => exact fun cx hP Q st h ρ a w hr => wp_ret ⟨st, ρ, hr, h, Fr.refl _ _, rfl⟩
  | rangeFunc _ _ _ _ => exact fun cx hP Q st h => h.elim
  | scope b ih =>
    intro cx hP Q st h ρ a w hr
    refine wp_scope_straight (wp_mono (ih cx hP _ st h ρ a w hr) ?_)
    rintro e a' w' ⟨st', ρ', hr', hq, hf⟩
    have h2 := hf.ok
    cases e with
    | goto l => exact hq.elim
    | normal => exact ⟨st', ρ', hr', hq, hf.fr.mono fun i hi => by simpa only [mW, fD] using hi, by simpa only [iG, ends] using h2⟩
    | exit id => exact ⟨st', ρ', hr', hq, hf.fr.mono fun i hi => by simpa only [mW, fD] using hi, by simpa only [iG, ends] using h2⟩
    | _ => exact ⟨st', ρ', hr', hq, hf.fr.mono fun i hi => by simpa only [mW, NH] using hi, rfl⟩
  | goto _ => exact fun cx hP Q st h => h.elim
  | refuse _ => exact fun cx hP Q st h => h.elim
end
section
variable (C : mT) (P : Program) (E : Env) (Hs : FuncId → Hint)
def AZN (rs : Array ResultVar) (K : KN) (e : Exit) (st : St) : Prop := match nQ e, AR1 P rs st with
  | true, some (d, σ', n') => K d σ' n'
  | _, _ => C.bad 601
def AQE : Nat → Inl
  | 0 => fun _ _ _ _ _ => C.bad 602
  | k + 1 => fun fid args σ n K => match P.funcs[fid]? with
    | some fn => match fn.body, decide (args.length ≤ fn.ntmps) with
      | some c, true => sx C P E (AQE k) (Hs fid) fn.ntmps c (AZN C P fn.results K) (QG args σ n)
      | _, _ => C.bad 603
    | none => C.bad 604
def AZW (rs : Array ResultVar) (R : T → Prop) (e : Exit) (st : St) : Prop := match nQ e, AXR P rs st with
  | true, some r => R r
  | _, _ => C.bad 701
def AZV (rs : Array ResultVar) (R : List (List T) → Prop) (e : Exit) (st : St) : Prop := match nQ e, AXS P rs st with
  | true, some r => R r
  | _, _ => C.bad 702
end
section
variable {P : Program} {E : Env} {Hs : FuncId → Hint}
theorem tG {e : Exit} (h : nQ e = true) : e = .normal ∨ e = .ret := by cases e <;> simp [nQ] at h <;> simp
theorem yB (hn : eK P = true) {f : FuncId} {fn : Func} (hf : P.funcs[f]? = some fn) : (fn.name == "runtime.NumGoroutine") = false := by
  have := Array.all_eq_true_iff_forall_mem.1 hn fn (Array.mem_of_getElem? hf)
  simpa using this
theorem LP (hE : aF P E) (hm : P.follows .mixedOrders = true) (hn : eK P = true) (hh : j4 E) : ∀ k, AD2 P (AQE aX P E Hs k) := by
  intro k
  induction k with
  | zero => intro cx ρ σ n w fid args vs K hP hG hI ha h; exact h.elim
  | succ k ih =>
    intro cx ρ σ n w fid args vs K hP hG hI ha h
    simp only [AQE] at h
    split at h
    · rename_i fn hf
      split at h
      · rename_i c hb hlen
        have hlen : args.length ≤ fn.ntmps := of_decide_eq_true hlen
        refine ⟨⟨fn, hf, yB hn hf, by simp [hb]⟩, ?_⟩
        subst hP
        let cx' : Cx := ⟨cx.P, cx.own, cx.w0, ρ, σ, w⟩
        have hI' : Inv cx' ρ σ n w := ⟨hI.boxes, hI.inj, hI.new, hI.rF, hI.below, hI.jS, hI.low⟩
        refine calls_of_wp hf hb ?_
        have hr : Rel cx' fn.ntmps ρ (QG args σ n) { tmps := vs ++ Array.replicate (fn.ntmps - vs.size) undef, defers := [] } w := HR hI' (bG.refl _ _ _ _) hG ha hlen
        refine wp_mono (MZ hE hm hh ih c cx' rfl _ (QG args σ n) h _ _ w hr) ?_
        rintro e a' w' ⟨st', ρ', hr', hq, hf'⟩
        unfold AZN at hq
        split at hq
        · rename_i d σ' n' he hres
          obtain ⟨v, h1, h2, h3⟩ := ABG hr' hres
          simp only [Prod.mk.injEq] at h3
          obtain ⟨rfl, rfl⟩ := h3
          have hI2 : Inv cx ρ' st'.σ st'.n w' := ⟨hr'.inv.boxes, hr'.inv.inj, hr'.inv.new, hr'.inv.rF, hr'.inv.below, hr'.inv.jS, hr'.inv.low⟩
          have hk2 : bG cx ρ ρ' σ st'.σ w w' := ⟨hr'.keeps.cell, hr'.keeps.size, hr'.keeps.own, hr'.keeps.loc, hr'.keeps.shape, hr'.keeps.ro⟩
          rcases tG he with rfl | rfl
          · exact ⟨hr'.defers, v, h1, v, ρ', d, st'.σ, st'.n, rfl, hI2, hk2, h2, hf'.fr.b, hq⟩
          · exact ⟨hr'.defers, v, h1, v, ρ', d, st'.σ, st'.n, rfl, hI2, hk2, h2, hf'.fr.b, hq⟩
        · exact hq.elim
      · exact h.elim
    · exact h.elim
def bD (C : mT) (P : Program) (E : Env) (Hs : FuncId → Hint) (k : Nat) (f : FuncId) (args : List T) (R : T → Prop) : Prop := match P.funcs[f]? with
  | some fn => match fn.body, decide (args.length ≤ fn.ntmps) with
    | some c, true => sx C P E (AQE C P E Hs k) (Hs f) fn.ntmps c (AZW C P fn.results R) (st0 args)
    | _, _ => C.bad 703
  | none => C.bad 704
def MY (C : mT) (P : Program) (E : Env) (Hs : FuncId → Hint) (k : Nat) (f : FuncId) (args : List T) (R : List (List T) → Prop) : Prop := match P.funcs[f]? with
  | some fn => match fn.body, decide (args.length ≤ fn.ntmps) with
    | some c, true => sx C P E (AQE C P E Hs k) (Hs f) fn.ntmps c (AZV C P fn.results R) (st0 args)
    | _, _ => C.bad 703
  | none => C.bad 704
theorem EH (hE : aF P E) (hm : P.follows .mixedOrders = true) (hn : eK P = true) (hh : j4 E) (k : Nat) {f : FuncId} {g : List T → Option T} (hex : ∃ fn c, P.funcs[f]? = some fn ∧ fn.body = some c)
    (h : ∀ args r, g args = some r → (∀ t ∈ args, Bd t) → bD aX P E Hs k f args (fun x => x = r)) : aJ P f g := by
  obtain ⟨fn, c, hf, hb⟩ := hex
  refine ⟨⟨fn, hf, yB hn hf, by simp [hb]⟩, fun w own args vs r hG hown ha hg => ?_⟩
  have hbd : ∀ t ∈ args, Bd t := by
    intro t ht
    obtain ⟨i, hi, rfl⟩ := List.mem_iff_getElem.1 ht
    exact (ha.2 i hi).bd
  have hs := h args r hg hbd
  simp only [bD, hf, hb] at hs
  split at hs
  · rename_i c' he hlen
    cases he
    have hlen : args.length ≤ fn.ntmps := of_decide_eq_true hlen
    let cx : Cx := YM P own w
    refine calls_of_wp hf hb ?_
    refine wp_mono (MZ hE hm hh (LP hE hm hn hh k) c cx rfl _ (st0 args) hs _ _ w (AIY (P := P) (nt := fn.ntmps) hG hown ha hlen)) ?_
    rintro e a' w' ⟨st', ρ', hr', hq, _⟩
    unfold AZW at hq
    split at hq
    · rename_i r' he hres
      subst hq
      obtain ⟨v, h1, h2⟩ := ARZ hr' hres
      rcases tG he with rfl | rfl
      · exact ⟨hr'.defers, v, h1, v, rfl, h2, hr'.inv.below⟩
      · exact ⟨hr'.defers, v, h1, v, rfl, h2, hr'.inv.below⟩
    · exact hq.elim
  · exact hs.elim
theorem AE9 (hE : aF P E) (hm : P.follows .mixedOrders = true) (hn : eK P = true) (hh : j4 E) (k : Nat) {f : FuncId} {g : List T → Option (List (List T))} (hex : ∃ fn c, P.funcs[f]? = some fn ∧ fn.body = some c)
    (h : ∀ args r, g args = some r → (∀ t ∈ args, Bd t) → MY aX P E Hs k f args (fun x => x = r)) : kY P f g := by
  obtain ⟨fn, c, hf, hb⟩ := hex
  refine ⟨⟨fn, hf, yB hn hf, by simp [hb]⟩, fun w own args vs r hG hown ha hg => ?_⟩
  have hbd : ∀ t ∈ args, Bd t := by
    intro t ht
    obtain ⟨i, hi, rfl⟩ := List.mem_iff_getElem.1 ht
    exact (ha.2 i hi).bd
  have hs := h args r hg hbd
  simp only [MY, hf, hb] at hs
  split at hs
  · rename_i c' he hlen
    cases he
    have hlen : args.length ≤ fn.ntmps := of_decide_eq_true hlen
    let cx : Cx := YM P own w
    refine calls_of_wp hf hb ?_
    refine wp_mono (MZ hE hm hh (LP hE hm hn hh k) c cx rfl _ (st0 args) hs _ _ w (AIY (P := P) (nt := fn.ntmps) hG hown ha hlen)) ?_
    rintro e a' w' ⟨st', ρ', hr', hq, _⟩
    unfold AZV at hq
    split at hq
    · rename_i r' he hres
      subst hq
      obtain ⟨v, h1, h2, h3⟩ := AR0 hr' hres
      rcases tG he with rfl | rfl
      · exact ⟨hr'.defers, v, h1, v, rfl, hr'.inv.below, h2, h3⟩
      · exact ⟨hr'.defers, v, h1, v, rfl, hr'.inv.below, h2, h3⟩
    · exact hq.elim
  · exact hs.elim
def AIM : Fn → Bool
  | .heap _ => false
  | _ => true
theorem aK : ∀ {l : List (FuncId × Fn)}, l.all (fun x => AIM x.2) = true → j4 (Env.of l)
  | [], _, f, g, h => by simp [Env.of] at h
  | (k, x) :: l, hl, f, g, h => by
    simp only [List.all_cons, Bool.and_eq_true] at hl
    simp only [Env.of] at h
    split at h
    · cases h; simp [AIM] at hl
    · exact aK hl.2 f g h
end
end Go.Pv
