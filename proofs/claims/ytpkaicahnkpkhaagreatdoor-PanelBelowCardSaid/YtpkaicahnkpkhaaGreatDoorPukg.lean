/-
  The symbolic executor, part g: code, and functions.
-/
import Derived.Test.YtpkaicahnkpkhaaGreatDoorPukf
set_option linter.unusedSimpArgs false
namespace Go.Pv
open Go Go.RowKit
inductive LH where
  | none
  | inv (its : List It)
  | alt (a b : List It)
  | QL (n : Nat)
  | alts (l : List (List It))
structure Hint where
  loop : Nat → LH
  join : Nat → Nat → Option (List It)
  ent : Nat → Ent
def aU : Hint := ⟨fun _ => .none, fun _ _ => none, fun _ => none⟩
def pY : Code → Option Nat
  | .region id _ _ => some id
  | .seq a b => match pY a with
    | some i => some i
    | none => pY b
  | .cond _ a b => match pY a with
    | some i => some i
    | none => pY b
  | .block _ b => pY b
  | .scope b => pY b
  | .loop b => pY b
  | _ => none
def DJ : Code → Option Nat
  | .region id _ _ => some id
  | .seq a b => match DJ b with
    | some i => some i
    | none => DJ a
  | .cond _ a b => match DJ b with
    | some i => some i
    | none => DJ a
  | .block _ b => DJ b
  | .scope b => DJ b
  | .loop b => DJ b
  | _ => none
def S8 (i : Nat) : List Oper → Bool
  | [] => false
  | o :: l => (match o.dst with
    | some t => t == i
    | none => false) || S8 i l
def KC : Code → Nat → Bool
  | .region _ ops _, i => S8 i ops.toList
  | .seq a b, i => KC a i || KC b i
  | .cond _ a b, i => KC a i || KC b i
  | .block _ b, i => KC b i
  | .scope b, i => KC b i
  | .loop b, i => KC b i
  | _, _ => false
def ends (t : Option Nat) : Code → Bool
  | .skip => t.isNone
  | .label _ => t.isNone
  | .region _ _ _ => t.isNone
  | .seq a b => (ends none a && ends t b) || (t.isSome && ends t a)
  | .cond _ a b => ends t a || ends t b
  | .block id b => match t with
    | none => ends none b || ends (some id) b
    | some j => ends (some j) b
  | .loop b => t.isSome && ends t b
  | .scope b => ends t b
  | .exit id => match t with
    | none => false
    | some j => j == id
  | _ => false
def e9 (t : Option Nat) : Code → Nat → Bool
  | .region _ ops _, i => S8 i ops.toList
  | .seq a b, i => (ends none a && ends t b && (e9 none a i || e9 t b i)) || (t.isSome && ends t a && e9 t a i)
  | .cond _ a b, i => (ends t a && e9 t a i) || (ends t b && e9 t b i)
  | .block id b, i => match t with
    | none => (ends none b && e9 none b i) || (ends (some id) b && e9 (some id) b i)
    | some j => e9 (some j) b i
  | .loop b, i => (ends none b && e9 none b i) || e9 t b i
  | .scope b, i => e9 t b i
  | _, _ => false
def mN (c : Code) : Exit → Nat → Bool
  | .normal => e9 none c
  | .exit id => e9 (some id) c
  | _ => KC c
def iC (c : Code) : Exit → Bool
  | .normal => ends none c
  | .exit id => ends (some id) c
  | _ => true
theorem G8 : ∀ {l : List Oper} {o : Oper} {t : Tmp}, o ∈ l → o.dst = some t → S8 t l = true
  | [], _, _, h, _ => by cases h
  | a :: l, o, t, h, ht => by
    simp only [S8, Bool.or_eq_true]
    rcases List.mem_cons.1 h with rfl | h
    · exact .inl (by simp [ht])
    · exact .inr (G8 h ht)
def ATK (H : Hint) (a : Code) : Option (List It) := match pY a, DJ a with
  | some i, some j => H.join i j
  | _, _ => none
def fits (st : St) : List It → Bool
  | [] => true
  | .arr k _ _ :: l => (match st.σ k with
    | some (.arr _ _ _) => true
    | _ => false) && fits st l
  | .own t _ _ :: l => (match st.s t with
    | .own _ => true
    | .p t => (match eH t with
      | some (true, []) => true
      | _ => false)
    | _ => false) && fits st l
  | .box k _ :: l => (match st.σ k with
    | some (.rows _ _) => true
    | _ => false) && fits st l
  | .map k _ _ _ :: l => (match st.σ k with
    | some (.map _ _) => true
    | _ => false) && fits st l
  | .bL k :: l => (match st.σ k with
    | some (.bL _ _ _ _) => true
    | _ => false) && fits st l
  | _ :: l => fits st l
def AUB (h : LH) (st : St) : Option (List It) := match h with
  | .inv its => some its
  | .alt a b => match fits st a with
    | true => some a
    | false => some b
  | .alts l => l.find? fun its => fits st its
  | _ => none
def ATN (H : Hint) (b : Code) : LH := match pY b with
  | some i => H.loop i
  | none => .none
section
variable (C : iZ) (P : Program) (E : Env) (I : Inl) (H : Hint) (nt : Nat)
def ARZ (ops : List Oper) (st : St) : Nat → Operand → Option Nat
  | 0, _ => none
  | f + 1, x => match ev (bP true st.s) x with
    | .ptr k _ _ => some k
    | _ => match x with
      | .tmp t => match ops.find? (fun o => o.dst == some t) with
        | some o => match o.op with
          | .fieldAddr _ a _ => ARZ ops st f a
          | _ => none
        | none => none
      | _ => none
def AWZ (ops : Array Oper) (st : St) : Option Nat := ops.toList.foldl (fun m o => match o.op with
  | .store _ a _ => match ARZ ops.toList st 6 a, m with
    | some k, some m => some (min k m)
    | _, _ => none
  | _ => m) (some st.n)
def AWD (id : Nat) (ops : Array Oper) (draw : Bool) (st : St) (K : St → Prop) : Prop :=
  match draw with
  | false => evK C P E nt I (H.ent id) false ops ops.toList st K
  | true => match oA E ops with
    | true => evK C P E nt I none true ops ops.toList st K
    | false => match oM false E ops with
      | true => DU false C P E nt ops st.n (w9 false E ops) (jQ ops st) K
      | false => match oM true E ops && ATT ops, AWZ ops st with
       | true, some base => match Nat.ble base st.n with
        | true => DU true C P E nt ops base (w9 true E ops) (jQ ops st) K
        | false => C.bad 510
       | _, _ => match Nat.ble ops.size 7 with
        | true => anyS C P E nt ops K ops.size (Array.replicate ops.size false) st
        | false => C.bad 501
def AE5 (its : List It) (st₀ : St) (X : AA.den its → Prop) (Q : Exit → St → Prop) : Exit → St → Prop
  | .normal, st => match DO its st₀ st with
    | true => AKS C st₀ st its X
    | false => C.bad 502
  | e, st => Q e (QK its st₀ st)
def unr (F : (Exit → St → Prop) → St → Prop) (Q : Exit → St → Prop) : Nat → St → Prop
  | 0, _ => C.bad 503
  | n + 1, st => F (fun e st' => match e with
    | .normal => unr F Q n st'
    | e => Q e st') st
def AP1 (c : Operand) (b : Bool) (st : St) : St := match c with
  | .tmp t => match st.s t with
    | .p (.v (.bool _)) => ⟨b7 st.s t (.p (.v (.bool b))), st.σ, st.n⟩
    | _ => st
  | _ => st
def sx : Code → (Exit → St → Prop) → St → Prop
  | .skip, Q, st => Q .normal st
  | .label _, Q, st => Q .normal st
  | .region id ops draw, Q, st => AWD C P E I H nt id ops draw st (Q .normal)
  | .seq a b, Q, st => match ATK H a with
    | none => sx a (WA (sx b Q) Q) st
    | some its => C.join (AA.den its) (fun X => sx a (AE5 C its st X Q) (KM its st)) fun y => sx b Q (QK its st (uY its (e9 none a) st y))
  | .cond c t e, Q, st => match ev (bP true st.s) c with
    | .p (.v (.bool b)) => aB b (sx t Q (AP1 c true st)) (sx e Q (AP1 c false st))
    | _ => C.bad 504
  | .block id b, Q, st => sx b (AD id Q) st
  | .loop b, Q, st => match ATN H b with
    | .QL n => unr C (sx b) Q n st
    | h => match AUB h st with
      | some its => match DO its st (KM its st) && ends none b with
        | true => AKS C st (KM its st) its fun y => C.loop (AA.den its) (fun X y => sx b (AE5 C its st X Q) (uY its (e9 none b) st y)) y
        | false => C.bad 505
      | none => C.bad 506
  | .exit id, Q, st => Q (.exit id) st
  | .ret, Q, st => Q .ret st
  | .scope b, Q, st => sx b (PC Q) st
  | _, _, _ => C.bad 507
end
theorem ACS {c : Operand} {b : Bool} {st : St} (h : ev (bP true st.s) c = .p (.v (.bool b))) : AP1 c b st = st := by
  unfold AP1
  split
  · rename_i t
    split
    · rename_i b' hb
      have : b' = b := by
        simp only [ev, bP, hb, strip] at h
        cases h; rfl
      subst this
      have : b7 st.s t (.p (.v (.bool b'))) = st.s := by
        funext i
        by_cases e : i = t
        · subst e; rw [JX, hb]
        · rw [bD _ _ e]
      rw [this]
    · rfl
  · rfl
def w4 (P : Program) (b : Code) (Q : Exit → Act → World → Prop) (a : Act) (w : World) : Prop :=
  ∀ (fb : Frame) (k : List Item) (cs : List Frame), ∃ e a' w', Q e a' w' ∧ Arrives P (lone (fb.at a (.code b :: .inLoop b :: k)) cs w) fb k cs e a' w'
theorem w4.wp {P : Program} {b : Code} {Q : Exit → Act → World → Prop} {a : Act} {w : World} (h : w4 P b Q a w) : (Code.loop b).wp P Q a w := by
  intro fb k cs
  obtain ⟨e, a', w', hq, harr⟩ := h fb k cs
  exact ⟨e, a', w', hq, .of_steps (.one step_loop) harr⟩
theorem w4.round {P : Program} {b : Code} {Q : Exit → Act → World → Prop} {a : Act} {w : World} (h : b.wp P (fun e a w => match e with
    | .normal => w4 P b Q a w
    | e => Q e a w) a w) : w4 P b Q a w := by
  intro fb k cs
  obtain ⟨e, a₁, w₁, hq, harr⟩ := h fb (.inLoop b :: k) cs
  cases e with
  | normal =>
    obtain ⟨e₂, a₂, w₂, hq₂, harr₂⟩ := hq fb k cs
    exact ⟨e₂, a₂, w₂, hq₂, .of_steps (Steps.trans harr (.one step_inLoop)) harr₂⟩
  | exit id => exact ⟨_, a₁, w₁, hq, .pass (x := .inLoop b) rfl (fun _ _ => .inl (by simp)) harr⟩
  | goto l => exact ⟨_, a₁, w₁, hq, .pass (x := .inLoop b) rfl (fun _ _ => .inl (by simp)) harr⟩
  | ret => exact ⟨_, a₁, w₁, hq, .pass (x := .inLoop b) rfl (fun _ _ => .inl (by simp)) harr⟩
  | panic ch => exact ⟨_, a₁, w₁, hq, .pass (x := .inLoop b) rfl (fun _ _ => .inl (by simp)) harr⟩
  | outgrown => exact ⟨_, a₁, w₁, hq, .pass (x := .inLoop b) rfl (fun _ _ => .inl (by simp)) harr⟩
section
variable {P : Program} {E : Env} {I : Inl} {H : Hint} {nt : Nat}
theorem Fr.ARU {its : List It} {A B D : Nat → Bool} {st₀ st : St} {y : AA.den its} (h : Fr B (uY its A st₀ y) st) (hD : ∀ i, D i = false → A i = false ∧ B i = false) : Fr D st₀ (QK its st₀ st) ∧ ∀ k x, kept its st₀ k = true → st₀.σ k = some x → st.σ k = some (lock x) := by
  have hk : ∀ k x, kept its st₀ k = true → st₀.σ k = some x → st.σ k = some (lock x) := by
    intro k x hke hx
    obtain ⟨hlt, x0, h0, h1, _⟩ := jN hke
    rw [hx] at h0; cases h0
    exact h.b.2 k (lock x) (by show k < st₀.n + rL its; omega) (by simp only [uY, decide_eq_true hlt, hke, hx, Option.map_some]) h1
  refine ⟨⟨fun i hi => ?_, ?_, fun k x hlt hx hw => ?_⟩, hk⟩
  · obtain ⟨h1, h2⟩ := hD i hi
    have := h.s i h2
    simp only [uY, h1] at this
    exact this
  · have := h.b.1
    simp only [uY] at this
    show st₀.n ≤ st.n
    omega
  · have hke := xS (its := its) hlt hx hw
    simp only [QK, hke, hx]
theorem Fr.AV9 {its : List It} {A : Nat → Bool} {st₀ st : St} (h : Fr A (KM its st₀) st) : Fr A st₀ (QK its st₀ st) ∧ ∀ k x, kept its st₀ k = true → st₀.σ k = some x → st.σ k = some (lock x) := by
  have hk : ∀ k x, kept its st₀ k = true → st₀.σ k = some x → st.σ k = some (lock x) := by
    intro k x hke hx
    obtain ⟨hlt, x0, h0, h1, _⟩ := jN hke
    rw [hx] at h0; cases h0
    exact h.b.2 k (lock x) hlt (by simp only [KM, hke, hx, Option.map_some]) h1
  refine ⟨⟨fun i hi => h.s i hi, h.b.1, fun k x hlt hx hw => ?_⟩, hk⟩
  have hke := xS (its := its) hlt hx hw
  simp only [QK, hke, hx]
theorem APR {its : List It} {A : Nat → Bool} {st₀ : St} {y : AA.den its} : Fr A st₀ (QK its st₀ (uY its A st₀ y)) := by
  refine ⟨fun i hi => ?_, ?_, fun k x hlt hx hw => ?_⟩
  · simp only [QK, uY, hi]
  · show st₀.n ≤ st₀.n + rL its
    omega
  · have hke := xS (its := its) hlt hx hw
    simp only [QK, hke, hx]
theorem APV {its : List It} {A : Nat → Bool} {st₀ : St} {y : AA.den its} : ∀ k x, kept its st₀ k = true → st₀.σ k = some x → (uY its A st₀ y).σ k = some (lock x) := by
  intro k x hke hx
  obtain ⟨hlt, _⟩ := jN hke
  simp only [uY, decide_eq_true hlt, hke, hx, Option.map_some]
theorem AP2 {its : List It} {st₀ : St} : ∀ k x, kept its st₀ k = true → st₀.σ k = some x → (KM its st₀).σ k = some (lock x) := by
  intro k x hke hx
  simp only [KM, hke, hx, Option.map_some]
theorem YS {cx : Cx} {its : List It} {A : Nat → Bool} {st₀ st : St} {y : AA.den its} {ρ₀ ρ : Nat → Option Loc} {a₀ a : Act} {w₀ w : World} (hR0 : Rel cx nt ρ₀ st₀ a₀ w₀) (hR : Rel (D6 cx its st₀ ρ₀ w₀) nt ρ st a w) (hs : ∀ i, A i = false → st.s i = st₀.s i)
    (hk : ∀ k x, kept its st₀ k = true → st₀.σ k = some x → st.σ k = some (lock x)) (hok : DO its st₀ st = true) (hy : AB2 st₀.n st₀ st its y) : ∃ ρ', Rel (D6 cx its st₀ ρ₀ w₀) nt ρ' (uY its A st₀ y) a w := by
  have hdom : ∀ k l, ρ₀ k = some l → k < st₀.n := fun k l hl => (hR0.inv.new k l hl).1
  refine AOS hR (fun i _ => (hR0.lJ i).blw hdom) (fun k x hx => ?_) hdom (fun k x hx hw => ?_) hs hk hok hy
  · obtain ⟨l, _, hb⟩ := hR0.inv.boxes k x hx
    exact hb.blw hdom
  · change (KM its st₀).σ k = some x at hx
    cases hke : kept its st₀ k with
    | true => rfl
    | false =>
      simp only [KM, hke] at hx
      obtain ⟨l, hl, _⟩ := hR0.inv.boxes k x hx
      rw [xS (hdom k l hl) hx hw] at hke
      cases hke
theorem IX {its : List It} {st₀ st : St} (h : DO its st₀ st = true) : D7 st₀.n its = true := by
  unfold DO at h
  rw [Bool.and_eq_true] at h
  exact h.2
theorem C5 {its : List It} {st₀ st : St} {X : AA.den its → Prop} {Q : Exit → St → Prop} (h : AE5 aV its st₀ X Q .normal st) : DO its st₀ st = true ∧ ∃ y, X y ∧ AB2 st₀.n st₀ st its y := by
  simp only [AE5] at h
  split at h
  · rename_i hok
    exact ⟨hok, HI (IX hok) h⟩
  · exact h.elim
theorem HF {its : List It} {st₀ st : St} {X : AA.den its → Prop} {Q : Exit → St → Prop} {e : Exit} (he : e ≠ .normal) (h : AE5 aV its st₀ X Q e st) : Q e (QK its st₀ st) := by
  cases e <;> first | exact h | exact absurd rfl he
theorem SS {t : Option Nat} : ∀ {c : Code} {i : Nat}, KC c i = false → e9 t c i = false := by
  intro c
  induction c generalizing t with
  | seq a b iha ihb =>
    intro i h
    simp only [KC, Bool.or_eq_false_iff] at h
    simp only [e9, iha (t := none) h.1, iha (t := t) h.1, ihb (t := t) h.2, Bool.or_false, Bool.and_false]
  | cond c a b iha ihb =>
    intro i h
    simp only [KC, Bool.or_eq_false_iff] at h
    simp only [e9, iha (t := t) h.1, ihb (t := t) h.2, Bool.or_false, Bool.and_false]
  | block id b ih =>
    intro i h
    simp only [KC] at h
    cases t with
    | none => simp only [e9, ih (t := none) h, ih (t := some id) h, Bool.and_false, Bool.or_false]
    | some j => simp only [e9, ih (t := some j) h]
  | loop b ih =>
    intro i h
    simp only [KC] at h
    simp only [e9, ih (t := none) h, ih (t := t) h, Bool.and_false, Bool.or_false]
  | region id ops draw => intro i h; exact h
  | scope b ih =>
    intro i h
    simp only [KC] at h
    simp only [e9, ih (t := t) h]
  | _ => intro i h; rfl
structure YP (c : Code) (e : Exit) (st st' : St) : Prop where
  fr : Fr (mN c e) st st'
  ok : iC c e = true
theorem zD (hE : aF P E) (hm : P.follows .mixedOrders = true) (hh : gO E) (hI : YQ P I) : ∀ (c : Code) (cx : Cx), cx.P = P → ∀ (Q : Exit → St → Prop) (st : St), sx aV P E I H nt c Q st → AW cx nt c (fun e st' => Q e st' ∧ YP c e st st') st := by
  intro c
  induction c with
  | skip => exact fun cx hP Q st h ρ a w hr => wp_skip ⟨st, ρ, hr, h, Fr.refl _ _, rfl⟩
  | label l => exact fun cx hP Q st h ρ a w hr => wp_label ⟨st, ρ, hr, h, Fr.refl _ _, rfl⟩
  | region id ops draw =>
    intro cx hP Q st h
    subst hP
    have hA : ∀ o ∈ ops.toList, ∀ t, o.dst = some t → mN (.region id ops draw) .normal t = true := fun o ho t ht => G8 ho ht
    simp only [sx, AWD] at h
    split at h
    · intro ρ a w hr
      refine wp_region ?_
      have := vS (Q := rR cx nt fun e st' => Q e st' ∧ YP (.region id ops false) e st st') hE hh hI (fun st' ρ a w hr' hf hk => ⟨st', ρ, hr', hk, hf, rfl⟩) ops.toList 0 st ρ a w (by simp) hA (Fr.refl _ _) hr h
      rw [List.range_eq_range']
      simpa using this
    · split at h
      · rename_i hord
        obtain ⟨st', h1, h2, h3⟩ := AKQ hh ops.toList st hA (Fr.refl _ _) h
        exact ABO hE hm hord h1 ⟨h3, h2, rfl⟩
      · split at h
        · rename_i hord
          obtain ⟨st', h1, h2, h3⟩ := OK hh hA (w9 false E ops) (jQ ops st) (Fr.refl _ _) h
          have hroom : Fr (mN (.region id ops true) .normal) st (jQ ops st) := ⟨fun _ _ => rfl, rO.same (n' := (jQ ops st).n) (Nat.le_add_right _ _)⟩
          exact QO hE hm hord h1 ⟨h3, hroom.trans h2, rfl⟩
        · split at h
          · rename_i hord hlow
            split at h
            · rename_i hle
              obtain ⟨st', h1, h2, h3⟩ := OK hh hA (w9 true E ops) (jQ ops st) (Fr.refl _ _) h
              have hroom : Fr (mN (.region id ops true) .normal) st (jQ ops st) := ⟨fun _ _ => rfl, rO.same (n' := (jQ ops st).n) (Nat.le_add_right _ _)⟩
              rw [Bool.and_eq_true] at hord
              exact AH2 hE hm (Nat.le_of_ble_eq_true hle) hord.2 hord.1 h1 ⟨h3, hroom.trans h2, rfl⟩
            · exact h.elim
          split at h
          · refine AR2 hE hm ?_
            have := SN hh hA ops.size (Array.replicate ops.size false) st (Fr.refl _ _) h
            exact K4 (fun s hs => ⟨hs.2, hs.1, rfl⟩) this
          · exact h.elim
  | seq a b iha ihb =>
    intro cx hP Q st h
    have fab : ∀ {e : Exit} {st st1 st2 : St}, Fr (e9 none a) st st1 → ends none a = true → YP b e st1 st2 → YP (.seq a b) e st st2 := by
      intro e st st1 st2 h1 h2 h3
      have hends : iC (.seq a b) e = true := by
        have := h3.ok
        cases e <;> simp only [iC, ends] at this ⊢ <;> simp [h2, this]
      have hi : ∀ i, mN (.seq a b) e i = false → e9 none a i = false ∧ mN b e i = false := by
        intro i hi
        have h4 := h3.ok
        cases e <;> simp only [iC, mN, e9, KC] at hi h4 ⊢ <;> simp only [h2, h4, Bool.true_and, Bool.or_eq_false_iff] at hi <;> first | exact hi.1 | exact ⟨SS hi.1, hi.2⟩
      exact ⟨(h1.mono fun i h => (hi i h).1).trans (h3.fr.mono fun i h => (hi i h).2), hends⟩
    have fa : ∀ {e : Exit} {st st1 : St}, e ≠ .normal → iC a e = true → Fr (mN a e) st st1 → YP (.seq a b) e st st1 := by
      intro e st st1 hne h2 h1
      refine ⟨h1.mono fun i hi => ?_, ?_⟩
      · cases e <;> simp only [iC, mN, e9, KC] at hi h2 ⊢
        · exact absurd rfl hne
        · simp only [h2, Option.isSome_some, Bool.true_and, Bool.or_eq_false_iff] at hi; exact hi.2
        all_goals (simp only [Bool.or_eq_false_iff] at hi; exact hi.1)
      · cases e <;> simp only [iC, ends] at h2 ⊢
        · exact absurd rfl hne
        · simp [h2]
    simp only [sx] at h
    split at h
    · intro ρ act w hr
      refine wp_seq (wp_mono (iha cx hP _ st h ρ act w hr) ?_)
      rintro e a' w' ⟨st', ρ', hr', hq, hf⟩
      by_cases he : e = .normal
      · subst he
        refine wp_mono (ihb cx hP Q st' hq ρ' a' w' hr') ?_
        rintro e2 a2 w2 ⟨st2, ρ2, hr2, hq2, hf2⟩
        exact ⟨st2, ρ2, hr2, hq2, fab hf.fr hf.ok hf2⟩
      · have hp : rR cx nt (fun e st' => Q e st' ∧ YP (.seq a b) e st st') e a' w' := ⟨st', ρ', hr', by cases e <;> first | exact absurd rfl he | exact hq, fa he hf.ok hf.fr⟩
        cases e <;> first | exact absurd rfl he | exact hp
    · rename_i its hj
      intro ρ act w hr
      have h : sx aV P E I H nt a (AE5 aV its st (fun y => sx aV P E I H nt b Q (QK its st (uY its (e9 none a) st y))) Q) (KM its st) := h
      refine wp_seq ?_
      have h1 := iha (D6 cx its st ρ w) hP _ _ h ρ act w (ALX hr)
      refine wp_mono h1 ?_
      rintro e a' w' ⟨st', ρ', hr', hq, hf⟩
      obtain ⟨hf1, hk⟩ := hf.fr.AV9
      by_cases he : e = .normal
      · subst he
        obtain ⟨hok, y, hX, hy⟩ := C5 hq
        obtain ⟨ρ2, hr2⟩ := YS (A := e9 none a) hr hr' (fun i hi => hf.fr.s i hi) hk hok hy
        have hr3 := ABM hr hr2 APV
        refine wp_mono (ihb cx hP Q _ hX ρ2 a' w' hr3) ?_
        rintro e2 a2 w2 ⟨st2, ρ2, hr2, hq2, hf2⟩
        exact ⟨st2, ρ2, hr2, hq2, fab APR hf.ok hf2⟩
      · have := HF he hq
        have hp : rR cx nt (fun e st' => Q e st' ∧ YP (.seq a b) e st st') e a' w' := ⟨_, ρ', ABM hr hr' hk, this, fa he hf.ok hf1⟩
        cases e <;> first | exact absurd rfl he | exact hp
  | cond c t e iht ihe =>
    intro cx hP Q st h ρ a w hr
    simp only [sx] at h
    split at h
    · rename_i b hb
      have hev := hr.evS c
      rw [hb] at hev
      have hval : a.eval c = .bool b := by
        generalize a.eval c = q at hev ⊢
        cases hev with
        | p _ _ h => cases h; rfl
      refine wp_cond hval ?_
      rw [pG] at h
      have f1 : ∀ {x : Exit} {st st1 : St}, YP t x st st1 → YP (.cond c t e) x st st1 := by
        intro x st st1 hf
        have h2 := hf.ok
        refine ⟨hf.fr.mono fun i hi => ?_, ?_⟩
        · cases x <;> simp only [iC, mN, e9, KC] at hi h2 ⊢ <;> simp only [h2, Bool.true_and, Bool.or_eq_false_iff] at hi <;> exact hi.1
        · cases x <;> simp only [iC, ends] at h2 ⊢ <;> simp [h2]
      have f2 : ∀ {x : Exit} {st st1 : St}, YP e x st st1 → YP (.cond c t e) x st st1 := by
        intro x st st1 hf
        have h2 := hf.ok
        refine ⟨hf.fr.mono fun i hi => ?_, ?_⟩
        · cases x <;> simp only [iC, mN, e9, KC] at hi h2 ⊢ <;> simp only [h2, Bool.true_and, Bool.or_eq_false_iff] at hi <;> exact hi.2
        · cases x <;> simp only [iC, ends] at h2 ⊢ <;> simp [h2]
      cases b with
      | true =>
        rw [if_pos rfl]
        refine wp_mono (iht cx hP Q st (by have := h.1 rfl; rwa [ACS hb] at this) ρ a w hr) ?_
        rintro e a' w' ⟨st', ρ', hr', hq, hf⟩
        exact ⟨st', ρ', hr', hq, f1 hf⟩
      | false =>
        rw [if_neg (by simp)]
        refine wp_mono (ihe cx hP Q st (by have := h.2 rfl; rwa [ACS hb] at this) ρ a w hr) ?_
        rintro e a' w' ⟨st', ρ', hr', hq, hf⟩
        exact ⟨st', ρ', hr', hq, f2 hf⟩
    · exact h.elim
  | block id b ih =>
    intro cx hP Q st h ρ a w hr
    refine wp_block (wp_mono (ih cx hP _ st h ρ a w hr) ?_)
    rintro e a' w' ⟨st', ρ', hr', hq, hf⟩
    have h2 := hf.ok
    cases e with
    | exit id' =>
      simp only [AD] at hq
      simp only [Exit.inBlock]
      split at hq
      · rename_i e
        rw [if_pos e]
        subst e
        refine ⟨st', ρ', hr', hq, hf.fr.mono fun i hi => ?_, ?_⟩
        · simp only [iC, mN, e9] at hi h2 ⊢
          simp only [h2, Bool.true_and, Bool.or_eq_false_iff] at hi; exact hi.2
        · simp only [iC, ends] at h2 ⊢; simp [h2]
      · rename_i e
        rw [if_neg e]
        exact ⟨st', ρ', hr', hq, hf.fr.mono fun i hi => by simpa only [mN, e9] using hi, by simpa only [iC, ends] using h2⟩
    | normal =>
      refine ⟨st', ρ', hr', hq, hf.fr.mono fun i hi => ?_, ?_⟩
      · simp only [iC, mN, e9] at hi h2 ⊢
        simp only [h2, Bool.true_and, Bool.or_eq_false_iff] at hi; exact hi.1
      · simp only [iC, ends] at h2 ⊢; simp [h2]
    | _ => exact ⟨st', ρ', hr', hq, hf.fr.mono fun i hi => by simpa only [mN, KC] using hi, rfl⟩
  | loop b ih =>
    intro cx hP Q st h ρ a w hr
    have fl : ∀ {e : Exit}, e ≠ .normal → iC b e = true → iC (.loop b) e = true ∧ ∀ i, mN (.loop b) e i = false → (ends none b = true → e9 none b i = false) ∧ mN b e i = false := by
      intro e hne h2
      refine ⟨?_, fun i hi => ?_⟩
      · cases e <;> simp only [iC, ends] at h2 ⊢
        · exact absurd rfl hne
        · simp [h2]
      · cases e <;> simp only [mN, e9, KC] at hi ⊢
        · exact absurd rfl hne
        · simp only [Bool.or_eq_false_iff] at hi
          exact ⟨fun h => by simpa [h] using hi.1, hi.2⟩
        all_goals exact ⟨fun _ => SS hi, hi⟩
    simp only [sx] at h
    split at h
    · rename_i n hl
      have key : ∀ (n : Nat) (st1 : St) (ρ : Nat → Option Loc) (a : Act) (w : World), Rel cx nt ρ st1 a w → (st1 = st ∨ ends none b = true) → Fr (e9 none b) st st1 → unr aV (sx aV P E I H nt b) Q n st1 → w4 cx.P b (rR cx nt fun e st' => Q e st' ∧ YP (.loop b) e st st') a w := by
        intro n
        induction n with
        | zero => intro st1 ρ a w hr _ hf h; exact h.elim
        | succ n ihn =>
          intro st1 ρ a w hr hor hf h
          refine w4.round (wp_mono (ih cx hP _ st1 h ρ a w hr) ?_)
          rintro e a2 w2 ⟨st2, ρ2, hr2, hq2, hf2⟩
          by_cases he : e = .normal
          · subst he
            exact ihn st2 ρ2 a2 w2 hr2 (.inr hf2.ok) (hf.trans hf2.fr) hq2
          · obtain ⟨g1, g2⟩ := fl he hf2.ok
            have hq2' : Q e st2 := by cases e <;> first | exact absurd rfl he | exact hq2
            have hfr : Fr (mN (.loop b) e) st st2 := by
              rcases hor with rfl | hor
              · exact hf2.fr.mono fun i hi => (g2 i hi).2
              · exact (hf.mono fun i hi => (g2 i hi).1 hor).trans (hf2.fr.mono fun i hi => (g2 i hi).2)
            have hp : rR cx nt (fun e st' => Q e st' ∧ YP (.loop b) e st st') e a2 w2 := ⟨st2, ρ2, hr2, hq2', hfr, g1⟩
            cases e <;> first | exact absurd rfl he | exact hp
      exact (key n st ρ a w hr (.inl rfl) (Fr.refl _ _) h).wp
    · split at h
      · rename_i its hl
        split at h
        · rename_i hok
          obtain ⟨hok, hnn⟩ := (Bool.and_eq_true _ _).mp hok
          obtain ⟨y0, hloop, hy0⟩ := HI (IX hok) h
          have hr1 := ALX (its := its) hr
          obtain ⟨ρ1, hr2⟩ := YS (A := e9 none b) hr hr1 (fun i _ => rfl) AP2 hok hy0
          have key := hloop (fun y => ∀ ρ' a' w', Rel (D6 cx its st ρ w) nt ρ' (uY its (e9 none b) st y) a' w' → w4 cx.P b (rR cx nt fun e st' => Q e st' ∧ YP (.loop b) e st st') a' w') (by
            intro y hb ρ' a' w' hr'
            refine w4.round (wp_mono (ih (D6 cx its st ρ w) hP _ _ hb ρ' a' w' hr') ?_)
            rintro e a2 w2 ⟨st2, ρ2, hr2, hq2, hf2⟩
            by_cases he : e = .normal
            · subst he
              obtain ⟨hf1, hk⟩ := hf2.fr.ARU (D := e9 none b) fun i hi => ⟨hi, hi⟩
              obtain ⟨hok2, y2, hX, hy2⟩ := C5 hq2
              obtain ⟨ρ3, hr3⟩ := YS (A := e9 none b) hr hr2 (fun i hi => hf1.s i hi) hk hok2 hy2
              exact hX ρ3 a2 w2 hr3
            · obtain ⟨g1, g2⟩ := fl he hf2.ok
              by_cases hn : ends none b = true
              · obtain ⟨hf1, hk⟩ := hf2.fr.ARU (D := mN (.loop b) e) fun i hi => ⟨(g2 i hi).1 hn, (g2 i hi).2⟩
                have := HF he hq2
                have hp : rR cx nt (fun e st' => Q e st' ∧ YP (.loop b) e st st') e a2 w2 := ⟨_, ρ2, ABM hr hr2 hk, this, hf1, g1⟩
                cases e <;> first | exact absurd rfl he | exact hp
              · exact absurd hnn hn)
          exact (key ρ1 a w hr2).wp
        · exact h.elim
      · exact h.elim
  | exit id => exact fun cx hP Q st h ρ a w hr => wp_exit ⟨st, ρ, hr, h, Fr.refl _ _, by simp [iC, ends]⟩
  | ret => exact fun cx hP Q st h ρ a w hr => wp_ret ⟨st, ρ, hr, h, Fr.refl _ _, rfl⟩
  | rangeFunc _ _ _ _ => exact fun cx hP Q st h => h.elim
  | scope b ih =>
    intro cx hP Q st h ρ a w hr
    refine wp_scope_straight (wp_mono (ih cx hP _ st h ρ a w hr) ?_)
    rintro e a' w' ⟨st', ρ', hr', hq, hf⟩
    have h2 := hf.ok
    cases e with
    | goto l => exact hq.elim
    | normal => exact ⟨st', ρ', hr', hq, hf.fr.mono fun i hi => by simpa only [mN, e9] using hi, by simpa only [iC, ends] using h2⟩
    | exit id => exact ⟨st', ρ', hr', hq, hf.fr.mono fun i hi => by simpa only [mN, e9] using hi, by simpa only [iC, ends] using h2⟩
    | _ => exact ⟨st', ρ', hr', hq, hf.fr.mono fun i hi => by simpa only [mN, KC] using hi, rfl⟩
  | goto _ => exact fun cx hP Q st h => h.elim
  | refuse _ => exact fun cx hP Q st h => h.elim
end
section
variable (C : iZ) (P : Program) (E : Env) (Hs : FuncId → Hint)
def AWA (rs : Array ResultVar) (K : KN) (e : Exit) (st : St) : Prop := match kN e, ANB P rs st with
  | true, some (d, σ', n') => K d σ' n'
  | _, _ => C.bad 601
def AGC : Nat → Inl
  | 0 => fun _ _ _ _ _ => C.bad 602
  | k + 1 => fun fid args σ n K => match P.funcs[fid]? with
    | some fn => match fn.body, decide (args.length ≤ fn.ntmps) with
      | some c, true => sx C P E (AGC k) (Hs fid) fn.ntmps c (AWA C P fn.results K) (MM args σ n)
      | _, _ => C.bad 603
    | none => C.bad 604
def AWL (rs : Array ResultVar) (R : T → Prop) (e : Exit) (st : St) : Prop := match kN e, AUD P rs st with
  | true, some r => R r
  | _, _ => C.bad 701
def AWK (rs : Array ResultVar) (R : List (List T) → Prop) (e : Exit) (st : St) : Prop := match kN e, AUE P rs st with
  | true, some r => R r
  | _, _ => C.bad 702
end
section
variable {P : Program} {E : Env} {Hs : FuncId → Hint}
theorem n9 {e : Exit} (h : kN e = true) : e = .normal ∨ e = .ret := by cases e <;> simp [kN] at h <;> simp
theorem qN (hn : cX P = true) {f : FuncId} {fn : Func} (hf : P.funcs[f]? = some fn) : (fn.name == "runtime.NumGoroutine") = false := by
  have := Array.all_eq_true_iff_forall_mem.1 hn fn (Array.mem_of_getElem? hf)
  simpa using this
theorem v8 (hE : aF P E) (hm : P.follows .mixedOrders = true) (hn : cX P = true) (hh : gO E) : ∀ k, YQ P (AGC aV P E Hs k) := by
  intro k
  induction k with
  | zero => intro cx ρ σ n w fid args vs K hP hG hI ha h; exact h.elim
  | succ k ih =>
    intro cx ρ σ n w fid args vs K hP hG hI ha h
    simp only [AGC] at h
    split at h
    · rename_i fn hf
      split at h
      · rename_i c hb hlen
        have hlen : args.length ≤ fn.ntmps := of_decide_eq_true hlen
        refine ⟨⟨fn, hf, qN hn hf, by simp [hb]⟩, ?_⟩
        subst hP
        let cx' : Cx := ⟨cx.P, cx.own, cx.w0, ρ, σ, w⟩
        have hI' : Inv cx' ρ σ n w := ⟨hI.boxes, hI.inj, hI.new, hI.oK, hI.below, hI.jP, hI.low⟩
        refine calls_of_wp hf hb ?_
        have hr : Rel cx' fn.ntmps ρ (MM args σ n) { tmps := vs ++ Array.replicate (fn.ntmps - vs.size) undef, defers := [] } w := E5 hI' (bC.refl _ _ _ _) hG ha hlen
        refine wp_mono (zD hE hm hh ih c cx' rfl _ (MM args σ n) h _ _ w hr) ?_
        rintro e a' w' ⟨st', ρ', hr', hq, hf'⟩
        unfold AWA at hq
        split at hq
        · rename_i d σ' n' he hres
          obtain ⟨v, h1, h2, h3⟩ := VY hr' hres
          simp only [Prod.mk.injEq] at h3
          obtain ⟨rfl, rfl⟩ := h3
          have hI2 : Inv cx ρ' st'.σ st'.n w' := ⟨hr'.inv.boxes, hr'.inv.inj, hr'.inv.new, hr'.inv.oK, hr'.inv.below, hr'.inv.jP, hr'.inv.low⟩
          have hk2 : bC cx ρ ρ' σ st'.σ w w' := ⟨hr'.keeps.cell, hr'.keeps.size, hr'.keeps.own, hr'.keeps.loc, hr'.keeps.shape, hr'.keeps.ro⟩
          rcases n9 he with rfl | rfl
          · exact ⟨hr'.defers, v, h1, v, ρ', d, st'.σ, st'.n, rfl, hI2, hk2, h2, hf'.fr.b, hq⟩
          · exact ⟨hr'.defers, v, h1, v, ρ', d, st'.σ, st'.n, rfl, hI2, hk2, h2, hf'.fr.b, hq⟩
        · exact hq.elim
      · exact h.elim
    · exact h.elim
def bJ (C : iZ) (P : Program) (E : Env) (Hs : FuncId → Hint) (k : Nat) (f : FuncId) (args : List T) (R : T → Prop) : Prop := match P.funcs[f]? with
  | some fn => match fn.body, decide (args.length ≤ fn.ntmps) with
    | some c, true => sx C P E (AGC C P E Hs k) (Hs f) fn.ntmps c (AWL C P fn.results R) (st0 args)
    | _, _ => C.bad 703
  | none => C.bad 704
def JT (C : iZ) (P : Program) (E : Env) (Hs : FuncId → Hint) (k : Nat) (f : FuncId) (args : List T) (R : List (List T) → Prop) : Prop := match P.funcs[f]? with
  | some fn => match fn.body, decide (args.length ≤ fn.ntmps) with
    | some c, true => sx C P E (AGC C P E Hs k) (Hs f) fn.ntmps c (AWK C P fn.results R) (st0 args)
    | _, _ => C.bad 703
  | none => C.bad 704
def AGE : D → Bool
  | .p t => t.flat
  | _ => false
def QJ : D → T
  | .p t => t
  | _ => .v undef
def AQA (C : iZ) (σ : Nat → Option aS) (d : D) (K : T → Prop) : Prop := match d with
  | .p t => match eH t with
    | some (_, []) => K (.sl false [])
    | _ => C.EM t.flat (K t)
  | .own k => match σ k with
    | some (.arr false _ rows) => C.EM (rows.all fun r => r.all T.flat) (K (.sl false rows))
    | _ => C.bad 801
  | .map k => match σ k with
    | some (.map false es) => C.EM (es.all fun e => AGE e.2) (K (.mp (es.map fun e => (e.1, QJ e.2))))
    | _ => C.bad 802
  | _ => C.bad 803
def AMA (C : iZ) (σ : Nat → Option aS) : List D → (List T → Prop) → Prop
  | [], K => K []
  | d :: l, K => AQA C σ d fun t => AMA C σ l fun ts => K (t :: ts)
def AUK (C : iZ) (P : Program) (rs : Array ResultVar) (R : T → Prop) (e : Exit) (st : St) : Prop := match kN e, uQ P st rs.toList with
  | true, some [d] => AQA C st.σ d R
  | true, some ds => AMA C st.σ ds fun ts => R (.cF ts)
  | _, _ => C.bad 804
def qZ (C : iZ) (P : Program) (E : Env) (Hs : FuncId → Hint) (k : Nat) (f : FuncId) (args : List T) (R : T → Prop) : Prop := match P.funcs[f]? with
  | some fn => match fn.body, decide (args.length ≤ fn.ntmps) with
    | some c, true => sx C P E (AGC C P E Hs k) (Hs f) fn.ntmps c (AUK C P fn.results R) (st0 args)
    | _, _ => C.bad 703
  | none => C.bad 704
theorem AC2 {cx : Cx} {nt : Nat} {ρ : Nat → Option Loc} {st : St} {a : Act} {w : World} (hr : Rel cx nt ρ st a w) {d : D} {v : Value} (hd : Rd w (Own cx ρ st.σ) ρ d v) {K : T → Prop} (h : AQA aV st.σ d K) : ∃ t, K t ∧ b6 w (fun b => b < cx.w0.heap.size) t v := by
  unfold AQA at h
  split at h
  · rename_i t
    cases hd with
    | p _ _ hd =>
    split at h
    · rename_i f hrow
      refine ⟨_, h, ?_⟩
      have := lH hd hrow
      cases this with
      | bY _ a cap hf hn => exact .bY false a cap (by simp) hn
      | sl _ _ sz bI off cap fc k1 k2 k3 k4 k5 k6 k7 k8 k9 => exact .bY false _ cap (by simp) (by simp)
    · obtain ⟨hf, h⟩ := h
      exact ⟨_, h, hd.BZ hf⟩
  · rename_i k
    split at h
    · rename_i z rows hσ
      obtain ⟨hf, h⟩ := h
      refine ⟨_, h, ?_⟩
      have this : b6 w (fun _ => False) (.sl false rows) v := HV (own0 := fun _ => False) (τ := st.σ) hr.inv (fun b hb => hb.elim) (fun _ _ h => h) (fun _ _ _ _ _ _ h => h) 1 hd (by simp [fN, hσ])
      have flatc : ∀ i j (hi : i < rows.length) (hj : j < rows[i].length), rows[i][j].flat = true := fun i j hi hj => List.all_eq_true.1 (List.all_eq_true.1 hf _ (List.getElem_mem hi)) _ (List.getElem_mem hj)
      cases hd with
      | own _ l hl hL h1 h2 =>
        have hm := hr.inv.oK k _ l hσ hl hL rfl
        generalize hvv : (Value.slice (some ⟨l.bI, 0, none⟩) l.L l.C) = v at this
        cases this with
        | bY _ a cap hf hn => exact .bY false a cap (by simp) hn
        | sl _ _ sz bI off cap f k1 k2 k3 k4 k5 k6 k7 k8 k9 =>
          have e : l.bI = bI := by
            injection hvv with e1 e2 e3
            injection e1 with e1
            injection e1
          exact .sl false rows sz bI off cap f k1 k2 k3 (by show ¬ bI < _; omega) k5 k6 k7 k8 (fun i j hi hj => (k9 i j hi hj).BZ (flatc i j hi hj))
      | dM _ l a hl hL =>
        generalize hvv : (Value.slice a 0 0) = v at this
        cases this with
        | bY _ a cap hf hn => exact .bY false a cap (by simp) hn
        | sl _ _ sz bI off cap f k1 k2 k3 k4 k5 k6 k7 k8 k9 =>
          have e : rows = [] := by
            injection hvv with e1 e2 e3
            exact List.eq_nil_of_length_eq_zero e2.symm
          subst e
          exact .bY false _ cap (by simp) (by simp)
    · exact h.elim
  · rename_i k
    split at h
    · rename_i es hσ
      obtain ⟨hf, h⟩ := h
      refine ⟨_, h, ?_⟩
      obtain ⟨l', ents, hl', hL, ho, hE⟩ := hr.inv.IF hσ
      cases hd with
      | map _ l hl =>
      have hll : l' = l := by rw [hl] at hl'; exact (Option.some.inj hl').symm
      subst hll
      have hm := hr.inv.oK k _ l' hσ hl hL rfl
      have hlen : (es.map fun e => (e.1, QJ e.2)).length = es.length := by simp
      have hex : ∀ i (hi : i < es.length), ∃ e, ents[i]? = some e ∧ e.key = es[i].1 ∧ e.born = i ∧ b6 w (fun b => b < cx.w0.heap.size) (QJ es[i].2) e.val := by
        intro i hi
        obtain ⟨e, a1, a2, a3, a4⟩ := hE.2 i hi
        have hp := List.all_eq_true.1 hf es[i] (List.getElem_mem hi)
        refine ⟨e, by rw [← Array.getElem?_toList]; exact a1, a2, by omega, ?_⟩
        generalize es[i].2 = d at hp a4
        cases d with
        | p t =>
          cases a4 with
          | p _ _ a4 => exact a4.BZ hp
        | _ => cases hp
      refine .mp _ l'.bI ents (fun i => ents.getD i ⟨undef, undef, 0⟩) (by show ¬ l'.bI < _; omega) ((hr.inv.new k l' hl).2 hL).1 (by rw [hlen]; exact ho) (by rw [hlen]; simpa using hE.1) (fun i hi => ?_) (fun i hi => ?_)
      · obtain ⟨e, a1, a2, a3, _⟩ := hex i (by omega)
        rw [show ents.getD i ⟨undef, undef, 0⟩ = e by rw [Array.getD_eq_getD_getElem?, a1]; rfl]
        exact ⟨a1, by simpa using a2, a3⟩
      · obtain ⟨e, a1, _, _, a4⟩ := hex i (by omega)
        rw [show ents.getD i ⟨undef, undef, 0⟩ = e by rw [Array.getD_eq_getD_getElem?, a1]; rfl]
        simpa using a4
    · exact h.elim
  · exact h.elim
theorem VE {cx : Cx} {nt : Nat} {ρ : Nat → Option Loc} {st : St} {a : Act} {w : World} (hr : Rel cx nt ρ st a w) : ∀ {ds : List D} {vs : List Value} {K : List T → Prop}, cB (Rd w (Own cx ρ st.σ) ρ) ds vs.toArray → AMA aV st.σ ds K → ∃ ts, K ts ∧ cB (b6 w (fun b => b < cx.w0.heap.size)) ts vs.toArray
  | [], vs, K, ha, h => by
    have : vs = [] := by simpa using ha.1
    subst this
    exact ⟨[], h, cB.nil⟩
  | d :: ds, vs, K, ha, h => by
    cases vs with
    | nil => have := ha.1; simp at this
    | cons v vs =>
      have h0 := ha.2 0 (by simp)
      have ht : cB (Rd w (Own cx ρ st.σ) ρ) ds vs.toArray := ⟨by have := ha.1; simp at this ⊢; exact this, fun i hi => by
        have := ha.2 (i + 1) (by simp; omega)
        simpa using this⟩
      obtain ⟨t, k1, k2⟩ := AC2 hr (by simpa using h0) h
      obtain ⟨ts, k3, k4⟩ := VE hr ht k1
      refine ⟨t :: ts, k3, ?_⟩
      have := (cB.one (R := b6 w (fun b => b < cx.w0.heap.size)) k2).append k4
      simpa using this
theorem ANX {cx : Cx} {nt : Nat} {ρ : Nat → Option Loc} {st : St} {a : Act} {w : World} (hr : Rel cx nt ρ st a w) {fn : Func} {R : T → Prop} {e : Exit} (h : AUK aV cx.P fn.results R e st) :
    kN e = true ∧ ∃ v t, (results fn a.tmps).run cx.P w = .ok v w ∧ R t ∧ b6 w (fun b => b < cx.w0.heap.size) t v := by
  have run : ∀ {ds : List D}, uQ cx.P st fn.results.toList = some ds → ∃ vs : Array Value, (fn.results.mapM (qQ a.tmps)).run cx.P w = .ok vs w ∧ cB (Rd w (Own cx ρ st.σ) ρ) ds vs := by
    intro ds hds
    obtain ⟨vs, h1, h2⟩ := nB hr hds
    refine ⟨vs.toArray, ?_, h2⟩
    rw [Array.mapM_eq_mapM_toList, Sem.run_map, h1]
    rfl
  unfold AUK at h
  split at h
  · rename_i d he hd
    refine ⟨he, ?_⟩
    obtain ⟨vs, h1, h2⟩ := run hd
    have hs : vs.size = 1 := by simpa using h2.1
    have h3 := h2.2 0 (by simp)
    have h4 : vs.getD 0 undef = vs[0] := by simp [Array.getD, hs]
    rw [h4] at h3
    obtain ⟨t, k1, k2⟩ := AC2 hr h3 h
    refine ⟨vs[0], t, ?_, k1, k2⟩
    rw [fK, Sem.run_bind, h1]
    simp [hs]
  · rename_i ds hne he hds
    refine ⟨he, ?_⟩
    obtain ⟨vs, h1, h2⟩ := run hds
    have hs : ¬ vs.size = 1 := by
      intro hs
      rw [h2.1] at hs
      obtain ⟨d, rfl⟩ := List.length_eq_one_iff.1 hs
      exact hne d rfl
    obtain ⟨ts, k1, k2⟩ := VE hr (vs := vs.toList) (by simpa using h2) h
    refine ⟨.tuple vs, .cF ts, ?_, k1, .cF ts vs (by simpa using k2.1) (by simpa using k2.2)⟩
    rw [fK, Sem.run_bind, h1]
    simp [hs]
  · exact h.elim
theorem VD (hE : aF P E) (hm : P.follows .mixedOrders = true) (hn : cX P = true) (hh : gO E) (k : Nat) {f : FuncId} {g : List T → Option T} (hex : ∃ fn c, P.funcs[f]? = some fn ∧ fn.body = some c)
    (h : ∀ args r, g args = some r → (∀ t ∈ args, Bd t) → qZ aV P E Hs k f args (fun x => x = r)) : iB P f g := by
  obtain ⟨fn, c, hf, hb⟩ := hex
  refine ⟨⟨fn, hf, qN hn hf, by simp [hb]⟩, fun w own args vs r hG hown ha hg => ?_⟩
  have hbd : ∀ t ∈ args, Bd t := by
    intro t ht
    obtain ⟨i, hi, rfl⟩ := List.mem_iff_getElem.1 ht
    exact (ha.2 i hi).bd
  have hs := h args r hg hbd
  simp only [qZ, hf, hb] at hs
  split at hs
  · rename_i c' he hlen
    cases he
    have hlen : args.length ≤ fn.ntmps := of_decide_eq_true hlen
    let cx : Cx := OG P own w
    refine calls_of_wp hf hb ?_
    refine wp_mono (zD hE hm hh (v8 hE hm hn hh k) c cx rfl _ (st0 args) hs _ _ w (QF (P := P) (nt := fn.ntmps) hG hown ha hlen)) ?_
    rintro e a' w' ⟨st', ρ', hr', hq, _⟩
    obtain ⟨he, v, t, h1, rfl, h2⟩ := ANX hr' hq
    rcases n9 he with rfl | rfl
    · exact ⟨hr'.defers, v, h1, v, rfl, h2, hr'.inv.below⟩
    · exact ⟨hr'.defers, v, h1, v, rfl, h2, hr'.inv.below⟩
  · exact hs.elim
theorem B3 (hE : aF P E) (hm : P.follows .mixedOrders = true) (hn : cX P = true) (hh : gO E) (k : Nat) {f : FuncId} {g : List T → Option T} (hex : ∃ fn c, P.funcs[f]? = some fn ∧ fn.body = some c)
    (h : ∀ args r, g args = some r → (∀ t ∈ args, Bd t) → bJ aV P E Hs k f args (fun x => x = r)) : aJ P f g := by
  obtain ⟨fn, c, hf, hb⟩ := hex
  refine ⟨⟨fn, hf, qN hn hf, by simp [hb]⟩, fun w own args vs r hG hown ha hg => ?_⟩
  have hbd : ∀ t ∈ args, Bd t := by
    intro t ht
    obtain ⟨i, hi, rfl⟩ := List.mem_iff_getElem.1 ht
    exact (ha.2 i hi).bd
  have hs := h args r hg hbd
  simp only [bJ, hf, hb] at hs
  split at hs
  · rename_i c' he hlen
    cases he
    have hlen : args.length ≤ fn.ntmps := of_decide_eq_true hlen
    let cx : Cx := OG P own w
    refine calls_of_wp hf hb ?_
    refine wp_mono (zD hE hm hh (v8 hE hm hn hh k) c cx rfl _ (st0 args) hs _ _ w (QF (P := P) (nt := fn.ntmps) hG hown ha hlen)) ?_
    rintro e a' w' ⟨st', ρ', hr', hq, _⟩
    unfold AWL at hq
    split at hq
    · rename_i r' he hres
      subst hq
      obtain ⟨v, h1, h2⟩ := AM9 hr' hres
      rcases n9 he with rfl | rfl
      · exact ⟨hr'.defers, v, h1, v, rfl, h2, hr'.inv.below⟩
      · exact ⟨hr'.defers, v, h1, v, rfl, h2, hr'.inv.below⟩
    · exact hq.elim
  · exact hs.elim
theorem ZR (hE : aF P E) (hm : P.follows .mixedOrders = true) (hn : cX P = true) (hh : gO E) (k : Nat) {f : FuncId} {g : List T → Option (List (List T))} (hex : ∃ fn c, P.funcs[f]? = some fn ∧ fn.body = some c)
    (h : ∀ args r, g args = some r → (∀ t ∈ args, Bd t) → JT aV P E Hs k f args (fun x => x = r)) : kR P f g := by
  obtain ⟨fn, c, hf, hb⟩ := hex
  refine ⟨⟨fn, hf, qN hn hf, by simp [hb]⟩, fun w own args vs r hG hown ha hg => ?_⟩
  have hbd : ∀ t ∈ args, Bd t := by
    intro t ht
    obtain ⟨i, hi, rfl⟩ := List.mem_iff_getElem.1 ht
    exact (ha.2 i hi).bd
  have hs := h args r hg hbd
  simp only [JT, hf, hb] at hs
  split at hs
  · rename_i c' he hlen
    cases he
    have hlen : args.length ≤ fn.ntmps := of_decide_eq_true hlen
    let cx : Cx := OG P own w
    refine calls_of_wp hf hb ?_
    refine wp_mono (zD hE hm hh (v8 hE hm hn hh k) c cx rfl _ (st0 args) hs _ _ w (QF (P := P) (nt := fn.ntmps) hG hown ha hlen)) ?_
    rintro e a' w' ⟨st', ρ', hr', hq, _⟩
    unfold AWK at hq
    split at hq
    · rename_i r' he hres
      subst hq
      obtain ⟨v, h1, h2, h3⟩ := ANA hr' hres
      rcases n9 he with rfl | rfl
      · exact ⟨hr'.defers, v, h1, v, rfl, hr'.inv.below, h2, h3⟩
      · exact ⟨hr'.defers, v, h1, v, rfl, hr'.inv.below, h2, h3⟩
    · exact hq.elim
  · exact hs.elim
def AC4 : Fn → Bool
  | .heap _ => false
  | _ => true
theorem aM : ∀ {l : List (FuncId × Fn)}, l.all (fun x => AC4 x.2) = true → gO (Env.of l)
  | [], _, f, g, h => by simp [Env.of] at h
  | (k, x) :: l, hl, f, g, h => by
    simp only [List.all_cons, Bool.and_eq_true] at hl
    simp only [Env.of] at h
    split at h
    · cases h; simp [AC4] at hl
    · exact aM hl.2 f g h
end
end Go.Pv
