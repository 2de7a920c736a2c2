/-
  The symbolic executor, part g: code, and functions.
-/
import Derived.Test.YtcnfagefgkblkaaGreatDoorVskf
set_option linter.defProp false
set_option linter.unusedSimpArgs false
namespace Go.Pv
open Go Go.RowKit
inductive LH where
  | none
  | inv (its : List It)
  | alt (a b : List It)
  | AG8 (n : Nat)
  | alts (l : List (List It))
structure Hint where
  loop : Nat → LH
  join : Nat → Nat → Option (List It)
  ent : Nat → Ent
def aX : Hint := ⟨fun _ => .none, fun _ _ => none, fun _ => none⟩
def sX : Code → Option Nat
  | .region id _ _ => some id
  | .seq a b => match sX a with
    | some i => some i
    | none => sX b
  | .cond _ a b => match sX a with
    | some i => some i
    | none => sX b
  | .block _ b => sX b
  | .scope b => sX b
  | .loop b => sX b
  | _ => none
def HD : Code → Option Nat
  | .region id _ _ => some id
  | .seq a b => match HD b with
    | some i => some i
    | none => HD a
  | .cond _ a b => match HD b with
    | some i => some i
    | none => HD a
  | .block _ b => HD b
  | .scope b => HD b
  | .loop b => HD b
  | _ => none
def WZ (i : Nat) : List Oper → Bool
  | [] => false
  | o :: l => (match o.dst with
    | some t => t == i
    | none => false) || WZ i l
def N1 : Code → Nat → Bool
  | .region _ ops _, i => WZ i ops.toList
  | .seq a b, i => N1 a i || N1 b i
  | .cond _ a b, i => N1 a i || N1 b i
  | .block _ b, i => N1 b i
  | .scope b, i => N1 b i
  | .loop b, i => N1 b i
  | _, _ => false
def ends (t : Option Nat) : Code → Bool
  | .skip => t.isNone
  | .label _ => t.isNone
  | .region _ _ _ => t.isNone
  | .seq a b => (ends none a && ends t b) || (t.isSome && ends t a)
  | .cond _ a b => ends t a || ends t b
  | .block id b => match t with
    | none => ends none b || ends (some id) b
    | some j => ends (some j) b
  | .loop b => t.isSome && ends t b
  | .scope b => ends t b
  | .exit id => match t with
    | none => false
    | some j => j == id
  | _ => false
def gI (t : Option Nat) : Code → Nat → Bool
  | .region _ ops _, i => WZ i ops.toList
  | .seq a b, i => (ends none a && ends t b && (gI none a i || gI t b i)) || (t.isSome && ends t a && gI t a i)
  | .cond _ a b, i => (ends t a && gI t a i) || (ends t b && gI t b i)
  | .block id b, i => match t with
    | none => (ends none b && gI none b i) || (ends (some id) b && gI (some id) b i)
    | some j => gI (some j) b i
  | .loop b, i => (ends none b && gI none b i) || gI t b i
  | .scope b, i => gI t b i
  | _, _ => false
def nQ (c : Code) : Exit → Nat → Bool
  | .normal => gI none c
  | .exit id => gI (some id) c
  | _ => N1 c
def jT (c : Code) : Exit → Bool
  | .normal => ends none c
  | .exit id => ends (some id) c
  | _ => true
theorem KO : ∀ {l : List Oper} {o : Oper} {t : Tmp}, o ∈ l → o.dst = some t → WZ t l = true
  | [], _, _, h, _ => by cases h
  | a :: l, o, t, h, ht => by
    simp only [WZ, Bool.or_eq_true]
    rcases List.mem_cons.1 h with rfl | h
    · exact .inl (by simp [ht])
    · exact .inr (KO h ht)
def A9K (H : Hint) (a : Code) : Option (List It) := match sX a, HD a with
  | some i, some j => H.join i j
  | _, _ => none
def fits (st : St) : List It → Bool
  | [] => true
  | .arr k _ _ :: l => (match st.σ k with
    | some (.arr _ _ _) => true
    | _ => false) && fits st l
  | .own t _ _ :: l => (match st.s t with
    | .own _ => true
    | .p t => (match eW t with
      | some (true, []) => true
      | _ => false)
    | _ => false) && fits st l
  | .box k _ :: l => (match st.σ k with
    | some (.rows _ _) => true
    | _ => false) && fits st l
  | .map k _ _ _ :: l => (match st.σ k with
    | some (.map _ _) => true
    | _ => false) && fits st l
  | .bW k :: l => (match st.σ k with
    | some (.bW _ _ _ _) => true
    | _ => false) && fits st l
  | _ :: l => fits st l
def BA1 (h : LH) (st : St) : Option (List It) := match h with
  | .inv its => some its
  | .alt a b => match fits st a with
    | true => some a
    | false => some b
  | .alts l => l.find? fun its => fits st its
  | _ => none
def A9O (H : Hint) (b : Code) : LH := match sX b with
  | some i => H.loop i
  | none => .none
section
variable (C : iS) (P : Program) (E : Env) (I : Inl) (H : Hint) (nt : Nat)
def A6F (ops : List Oper) (st : St) : Nat → Operand → Option Nat
  | 0, _ => none
  | f + 1, x => match ev (bY true st.s) x with
    | .ptr k _ _ => some k
    | _ => match x with
      | .tmp t => match ops.find? (fun o => o.dst == some t) with
        | some o => match o.op with
          | .fieldAddr _ a _ => A6F ops st f a
          | _ => none
        | none => none
      | _ => none
def BEQ (ops : Array Oper) (st : St) : Option Nat := ops.toList.foldl (fun m o => match o.op with
  | .store _ a _ => match A6F ops.toList st 6 a, m with
    | some k, some m => some (min k m)
    | _, _ => none
  | _ => m) (some st.n)
def AW2 (E : Env) (ops : Array Oper) : Option Nat := ((List.range ops.size).filter fun i => match ops[i]? with
  | some o => match o.op with
    | .call c => match c.callee with
      | .value (.tmp _) => true
      | .value (.func f) => (E f).isNone
      | _ => false
    | _ => false
  | none => false).getLast?
def A6H (E : Env) (ops : Array Oper) : Option Nat := match AW2 E ops with
  | some t => match TM E ops t with
    | true => some t
    | false => none
  | none => none
def BD1 (id : Nat) (ops : Array Oper) (draw : Bool) (st : St) (K : St → Prop) : Prop :=
  match draw with
  | false => evK C P E nt I (H.ent id) false ops ops.toList st K
  | true => match A6H E ops with
   | some t => uQ false C P E nt ops st.n (List.range t) (eN ops st) fun st1 => evK C P E nt I none false ops (ops.toList.drop t) st1 K
   | none => match qR E ops with
    | true => evK C P E nt I none true ops ops.toList st K
    | false => match rD false E ops with
      | true => uQ false C P E nt ops st.n (BD false E ops) (eN ops st) K
      | false => match (rD true E ops && A34 ops) && !(E.marked 9000000000), BEQ ops st with
       | true, some base => match Nat.ble base st.n with
        | true => uQ true C P E nt ops base (BD true E ops) (eN ops st) K
        | false => C.bad 510
       | _, _ => match Nat.ble ops.size 7 with
        | true => anyS C P E nt ops K ops.size (Array.replicate ops.size false) st
        | false => match ANU false E ops with
          | true => J8 false C P E nt ops st.n (uL ops.toList []) K ops.size (Array.replicate ops.size false) (eN ops st)
          | false => C.bad 501
def AL1 (its : List It) (st₀ : St) (X : EH.den its → Prop) (Q : Exit → St → Prop) : Exit → St → Prop
  | .normal, st => match HG its st₀ st with
    | true => AUM C st₀ st its X
    | false => C.bad 502
  | e, st => Q e (UZ its st₀ st)
def unr (F : (Exit → St → Prop) → St → Prop) (Q : Exit → St → Prop) : Nat → St → Prop
  | 0, _ => C.bad 503
  | n + 1, st => F (fun e st' => match e with
    | .normal => unr F Q n st'
    | e => Q e st') st
def A3S (c : Operand) (b : Bool) (st : St) : St := match c with
  | .tmp t => match st.s t with
    | .p (.v (.bool _)) => ⟨bX st.s t (.p (.v (.bool b))), st.σ, st.n⟩
    | _ => st
  | _ => st
def sx : Code → (Exit → St → Prop) → St → Prop
  | .skip, Q, st => Q .normal st
  | .label _, Q, st => Q .normal st
  | .region id ops draw, Q, st => BD1 C P E I H nt id ops draw st (Q .normal)
  | .seq a b, Q, st => match A9K H a with
    | none => sx a (AAZ (sx b Q) Q) st
    | some its => C.join (EH.den its) (fun X => sx a (AL1 C its st X Q) (OD its st)) fun y => sx b Q (UZ its st (zB its (gI none a) st y))
  | .cond c t e, Q, st => match ev (bY true st.s) c with
    | .p (.v (.bool b)) => aD b (sx t Q (A3S c true st)) (sx e Q (A3S c false st))
    | _ => C.bad 504
  | .block id b, Q, st => sx b (EL id Q) st
  | .loop b, Q, st => match A9O H b with
    | .AG8 n => unr C (sx b) Q n st
    | h => match BA1 h st with
      | some its => match HG its st (OD its st) && ends none b with
        | true => AUM C st (OD its st) its fun y => C.loop (EH.den its) (fun X y => sx b (AL1 C its st X Q) (zB its (gI none b) st y)) y
        | false => C.bad 505
      | none => C.bad 506
  | .exit id, Q, st => Q (.exit id) st
  | .ret, Q, st => Q .ret st
  | .scope b, Q, st => sx b (TJ Q) st
  | _, _, _ => C.bad 507
end
theorem AIE {c : Operand} {b : Bool} {st : St} (h : ev (bY true st.s) c = .p (.v (.bool b))) : A3S c b st = st := by
  unfold A3S
  split
  · rename_i t
    split
    · rename_i b' hb
      have : b' = b := by
        simp only [ev, bY, hb, strip] at h
        cases h; rfl
      subst this
      have : bX st.s t (.p (.v (.bool b'))) = st.s := by
        funext i
        by_cases e : i = t
        · subst e; rw [dQ, hb]
        · rw [bE _ _ e]
      rw [this]
    · rfl
  · rfl
def BA (P : Program) (b : Code) (Q : Exit → Act → World → Prop) (a : Act) (w : World) : Prop :=
  ∀ (fb : Frame) (k : List Item) (cs : List Frame), ∃ e a' w', Q e a' w' ∧ Arrives P (lone (fb.at a (.code b :: .inLoop b :: k)) cs w) fb k cs e a' w'
theorem BA.wp {P : Program} {b : Code} {Q : Exit → Act → World → Prop} {a : Act} {w : World} (h : BA P b Q a w) : (Code.loop b).wp P Q a w := by
  intro fb k cs
  obtain ⟨e, a', w', hq, harr⟩ := h fb k cs
  exact ⟨e, a', w', hq, .of_steps (.one step_loop) harr⟩
theorem BA.round {P : Program} {b : Code} {Q : Exit → Act → World → Prop} {a : Act} {w : World} (h : b.wp P (fun e a w => match e with
    | .normal => BA P b Q a w
    | e => Q e a w) a w) : BA P b Q a w := by
  intro fb k cs
  obtain ⟨e, a₁, w₁, hq, harr⟩ := h fb (.inLoop b :: k) cs
  cases e with
  | normal =>
    obtain ⟨e₂, a₂, w₂, hq₂, harr₂⟩ := hq fb k cs
    exact ⟨e₂, a₂, w₂, hq₂, .of_steps (Steps.trans harr (.one step_inLoop)) harr₂⟩
  | exit id => exact ⟨_, a₁, w₁, hq, .pass (x := .inLoop b) rfl (fun _ _ => .inl (by simp)) harr⟩
  | goto l => exact ⟨_, a₁, w₁, hq, .pass (x := .inLoop b) rfl (fun _ _ => .inl (by simp)) harr⟩
  | ret => exact ⟨_, a₁, w₁, hq, .pass (x := .inLoop b) rfl (fun _ _ => .inl (by simp)) harr⟩
  | panic ch => exact ⟨_, a₁, w₁, hq, .pass (x := .inLoop b) rfl (fun _ _ => .inl (by simp)) harr⟩
  | outgrown => exact ⟨_, a₁, w₁, hq, .pass (x := .inLoop b) rfl (fun _ _ => .inl (by simp)) harr⟩
section
variable {P : Program} {E : Env} {I : Inl} {H : Hint} {nt : Nat}
theorem Fr.A55 {its : List It} {A B D : Nat → Bool} {st₀ st : St} {y : EH.den its} (h : Fr B (zB its A st₀ y) st) (hD : ∀ i, D i = false → A i = false ∧ B i = false) : Fr D st₀ (UZ its st₀ st) ∧ ∀ k x, kept its st₀ k = true → st₀.σ k = some x → st.σ k = some (lock x) := by
  have hk : ∀ k x, kept its st₀ k = true → st₀.σ k = some x → st.σ k = some (lock x) := by
    intro k x hke hx
    obtain ⟨hlt, x0, h0, h1, _⟩ := lF hke
    rw [hx] at h0; cases h0
    exact h.b.2 k (lock x) (by show k < st₀.n + uU its; omega) (by simp only [zB, decide_eq_true hlt, hke, hx, Option.map_some]) h1
  refine ⟨⟨fun i hi => ?_, ?_, fun k x hlt hx hw => ?_⟩, hk⟩
  · obtain ⟨h1, h2⟩ := hD i hi
    have := h.s i h2
    simp only [zB, h1] at this
    exact this
  · have := h.b.1
    simp only [zB] at this
    show st₀.n ≤ st.n
    omega
  · have hke := CX (its := its) hlt hx hw
    simp only [UZ, hke, hx]
theorem Fr.BDX {its : List It} {A : Nat → Bool} {st₀ st : St} (h : Fr A (OD its st₀) st) : Fr A st₀ (UZ its st₀ st) ∧ ∀ k x, kept its st₀ k = true → st₀.σ k = some x → st.σ k = some (lock x) := by
  have hk : ∀ k x, kept its st₀ k = true → st₀.σ k = some x → st.σ k = some (lock x) := by
    intro k x hke hx
    obtain ⟨hlt, x0, h0, h1, _⟩ := lF hke
    rw [hx] at h0; cases h0
    exact h.b.2 k (lock x) hlt (by simp only [OD, hke, hx, Option.map_some]) h1
  refine ⟨⟨fun i hi => h.s i hi, h.b.1, fun k x hlt hx hw => ?_⟩, hk⟩
  have hke := CX (its := its) hlt hx hw
  simp only [UZ, hke, hx]
theorem A3I {its : List It} {A : Nat → Bool} {st₀ : St} {y : EH.den its} : Fr A st₀ (UZ its st₀ (zB its A st₀ y)) := by
  refine ⟨fun i hi => ?_, ?_, fun k x hlt hx hw => ?_⟩
  · simp only [UZ, zB, hi]
  · show st₀.n ≤ st₀.n + uU its
    omega
  · have hke := CX (its := its) hlt hx hw
    simp only [UZ, hke, hx]
theorem A3L {its : List It} {A : Nat → Bool} {st₀ : St} {y : EH.den its} : ∀ k x, kept its st₀ k = true → st₀.σ k = some x → (zB its A st₀ y).σ k = some (lock x) := by
  intro k x hke hx
  obtain ⟨hlt, _⟩ := lF hke
  simp only [zB, decide_eq_true hlt, hke, hx, Option.map_some]
theorem A3T {its : List It} {st₀ : St} : ∀ k x, kept its st₀ k = true → st₀.σ k = some x → (OD its st₀).σ k = some (lock x) := by
  intro k x hke hx
  simp only [OD, hke, hx, Option.map_some]
theorem AC1 {cx : Cx} {its : List It} {A : Nat → Bool} {st₀ st : St} {y : EH.den its} {ρ₀ ρ : Nat → Option Loc} {a₀ a : Act} {w₀ w : World} (hR0 : Rel cx nt ρ₀ st₀ a₀ w₀) (hR : Rel (HT cx its st₀ ρ₀ w₀) nt ρ st a w) (hs : ∀ i, A i = false → st.s i = st₀.s i)
    (hk : ∀ k x, kept its st₀ k = true → st₀.σ k = some x → st.σ k = some (lock x)) (hok : HG its st₀ st = true) (hy : AHH st₀.n st₀ st its y) : ∃ ρ', Rel (HT cx its st₀ ρ₀ w₀) nt ρ' (zB its A st₀ y) a w := by
  have hdom : ∀ k l, ρ₀ k = some l → k < st₀.n := fun k l hl => (hR0.inv.new k l hl).1
  refine A2C hR (fun i _ => (hR0.l9 i).blw hdom) (fun k x hx => ?_) hdom (fun k x hx hw => ?_) hs hk hok hy
  · obtain ⟨l, _, hb⟩ := hR0.inv.boxes k x hx
    exact hb.blw hdom
  · change (OD its st₀).σ k = some x at hx
    cases hke : kept its st₀ k with
    | true => rfl
    | false =>
      simp only [OD, hke] at hx
      obtain ⟨l, hl, _⟩ := hR0.inv.boxes k x hx
      rw [CX (hdom k l hl) hx hw] at hke
      cases hke
theorem L8 {its : List It} {st₀ st : St} (h : HG its st₀ st = true) : HU st₀.n its = true := by
  unfold HG at h
  rw [Bool.and_eq_true] at h
  exact h.2
theorem G0 {its : List It} {st₀ st : St} {X : EH.den its → Prop} {Q : Exit → St → Prop} (h : AL1 bR its st₀ X Q .normal st) : HG its st₀ st = true ∧ ∃ y, X y ∧ AHH st₀.n st₀ st its y := by
  simp only [AL1] at h
  split at h
  · rename_i hok
    exact ⟨hok, KX (L8 hok) h⟩
  · exact h.elim
theorem KT {its : List It} {st₀ st : St} {X : EH.den its → Prop} {Q : Exit → St → Prop} {e : Exit} (he : e ≠ .normal) (h : AL1 bR its st₀ X Q e st) : Q e (UZ its st₀ st) := by
  cases e <;> first | exact h | exact absurd rfl he
theorem WK {t : Option Nat} : ∀ {c : Code} {i : Nat}, N1 c i = false → gI t c i = false := by
  intro c
  induction c generalizing t with
  | seq a b iha ihb =>
    intro i h
    simp only [N1, Bool.or_eq_false_iff] at h
    simp only [gI, iha (t := none) h.1, iha (t := t) h.1, ihb (t := t) h.2, Bool.or_false, Bool.and_false]
  | cond c a b iha ihb =>
    intro i h
    simp only [N1, Bool.or_eq_false_iff] at h
    simp only [gI, iha (t := t) h.1, ihb (t := t) h.2, Bool.or_false, Bool.and_false]
  | block id b ih =>
    intro i h
    simp only [N1] at h
    cases t with
    | none => simp only [gI, ih (t := none) h, ih (t := some id) h, Bool.and_false, Bool.or_false]
    | some j => simp only [gI, ih (t := some j) h]
  | loop b ih =>
    intro i h
    simp only [N1] at h
    simp only [gI, ih (t := none) h, ih (t := t) h, Bool.and_false, Bool.or_false]
  | region id ops draw => intro i h; exact h
  | scope b ih =>
    intro i h
    simp only [N1] at h
    simp only [gI, ih (t := t) h]
  | _ => intro i h; rfl
structure FrE (c : Code) (e : Exit) (st st' : St) : Prop where
  fr : Fr (nQ c e) st st'
  ok : jT c e = true
theorem wY (hE : aQ P E) (hm : P.follows .mixedOrders = true) (hh : e8 E) (hI : ACZ P I) : ∀ (c : Code) (cx : Cx), cx.P = P → ∀ (Q : Exit → St → Prop) (st : St), sx bR P E I H nt c Q st → AW cx nt c (fun e st' => Q e st' ∧ FrE c e st st') st := by
  intro c
  induction c with
  | skip => exact fun cx hP Q st h ρ a w hr => wp_skip ⟨st, ρ, hr, h, Fr.refl _ _, rfl⟩
  | label l => exact fun cx hP Q st h ρ a w hr => wp_label ⟨st, ρ, hr, h, Fr.refl _ _, rfl⟩
  | region id ops draw =>
    intro cx hP Q st h
    subst hP
    have hA : ∀ o ∈ ops.toList, ∀ t, o.dst = some t → nQ (.region id ops draw) .normal t = true := fun o ho t ht => KO ho ht
    simp only [sx, BD1] at h
    split at h
    · intro ρ a w hr
      refine wp_region ?_
      have := vJ (Q := q0 cx nt fun e st' => Q e st' ∧ FrE (.region id ops false) e st st') hE hh hI (fun st' ρ a w hr' hf hk => ⟨st', ρ, hr', hk, hf, rfl⟩) ops.toList 0 st ρ a w (by simp) hA (Fr.refl _ _) hr h
      rw [List.range_eq_range']
      simpa using this
    · split at h
      · rename_i t htail
        have hT : TM E ops t = true := by
          unfold A6H at htail
          split at htail
          · split at htail
            · cases htail; assumption
            · cases htail
          · cases htail
        obtain ⟨st1, h1, h2, h3⟩ := BI hh hA (List.range t) (eN ops st) (Fr.refl _ _) h
        have hroom : Fr (nQ (.region id ops true) .normal) st (eN ops st) := ⟨fun _ _ => rfl, pV.same (n' := (eN ops st).n) (Nat.le_add_right _ _)⟩
        refine APC hE hm hT h1 fun ρ a w hr => ?_
        have := vJ (Q := q0 cx nt fun e st' => Q e st' ∧ FrE (.region id ops true) e st st') hE hh hI (fun st' ρ a w hr' hf hk => ⟨st', ρ, hr', hk, hf, rfl⟩) (ops.toList.drop t) t st1 ρ a w (fun j => by simp) (fun o ho => hA o (List.mem_of_mem_drop ho)) (hroom.trans h2) hr h3
        simpa using this
      split at h
      · rename_i hord
        obtain ⟨st', h1, h2, h3⟩ := AUK hh ops.toList st hA (Fr.refl _ _) h
        exact AG9 hE hm hord h1 ⟨h3, h2, rfl⟩
      · split at h
        · rename_i hord
          obtain ⟨st', h1, h2, h3⟩ := BI hh hA (BD false E ops) (eN ops st) (Fr.refl _ _) h
          have hroom : Fr (nQ (.region id ops true) .normal) st (eN ops st) := ⟨fun _ _ => rfl, pV.same (n' := (eN ops st).n) (Nat.le_add_right _ _)⟩
          exact U5 hE hm hord h1 ⟨h3, hroom.trans h2, rfl⟩
        · split at h
          · rename_i hord hlow
            split at h
            · rename_i hle
              obtain ⟨st', h1, h2, h3⟩ := BI hh hA (BD true E ops) (eN ops st) (Fr.refl _ _) h
              have hroom : Fr (nQ (.region id ops true) .normal) st (eN ops st) := ⟨fun _ _ => rfl, pV.same (n' := (eN ops st).n) (Nat.le_add_right _ _)⟩
              rw [Bool.and_eq_true, Bool.and_eq_true] at hord
              exact APB hE hm (Nat.le_of_ble_eq_true hle) hord.1.2 hord.1.1 h1 ⟨h3, hroom.trans h2, rfl⟩
            · exact h.elim
          split at h
          · refine A6K hE hm ?_
            have := WB hh hA ops.size (Array.replicate ops.size false) st (Fr.refl _ _) h
            exact OS (fun s hs => ⟨hs.2, hs.1, rfl⟩) this
          split at h
          · rename_i hmx
            have hroom : Fr (nQ (.region id ops true) .normal) st (eN ops st) := ⟨fun _ _ => rfl, pV.same (n' := (eN ops st).n) (Nat.le_add_right _ _)⟩
            have := OU (ms := uL ops.toList []) (fun j i hb => lG ops.toList [] (by simp) (fun j i hb => by simp at hb) j i hb) hh hA ops.size (Array.replicate ops.size false) (eN ops st)
              (fun m o _ hm' => by simp [Array.getElem?_replicate] at hm'; split at hm' <;> simp at hm') (Nat.le_add_right _ _) (Fr.refl _ _) h
            exact APA hE hm hmx (OT (fun s hs => ⟨hs.2, hroom.trans hs.1, rfl⟩) this)
          · exact h.elim
  | seq a b iha ihb =>
    intro cx hP Q st h
    have fab : ∀ {e : Exit} {st st1 st2 : St}, Fr (gI none a) st st1 → ends none a = true → FrE b e st1 st2 → FrE (.seq a b) e st st2 := by
      intro e st st1 st2 h1 h2 h3
      have hends : jT (.seq a b) e = true := by
        have := h3.ok
        cases e <;> simp only [jT, ends] at this ⊢ <;> simp [h2, this]
      have hi : ∀ i, nQ (.seq a b) e i = false → gI none a i = false ∧ nQ b e i = false := by
        intro i hi
        have h4 := h3.ok
        cases e <;> simp only [jT, nQ, gI, N1] at hi h4 ⊢ <;> simp only [h2, h4, Bool.true_and, Bool.or_eq_false_iff] at hi <;> first | exact hi.1 | exact ⟨WK hi.1, hi.2⟩
      exact ⟨(h1.mono fun i h => (hi i h).1).trans (h3.fr.mono fun i h => (hi i h).2), hends⟩
    have fa : ∀ {e : Exit} {st st1 : St}, e ≠ .normal → jT a e = true → Fr (nQ a e) st st1 → FrE (.seq a b) e st st1 := by
      intro e st st1 hne h2 h1
      refine ⟨h1.mono fun i hi => ?_, ?_⟩
      · cases e <;> simp only [jT, nQ, gI, N1] at hi h2 ⊢
        · exact absurd rfl hne
        · simp only [h2, Option.isSome_some, Bool.true_and, Bool.or_eq_false_iff] at hi; exact hi.2
        all_goals (simp only [Bool.or_eq_false_iff] at hi; exact hi.1)
      · cases e <;> simp only [jT, ends] at h2 ⊢
        · exact absurd rfl hne
        · simp [h2]
    simp only [sx] at h
    split at h
    · intro ρ act w hr
      refine wp_seq (wp_mono (iha cx hP _ st h ρ act w hr) ?_)
      rintro e a' w' ⟨st', ρ', hr', hq, hf⟩
      by_cases he : e = .normal
      · subst he
        refine wp_mono (ihb cx hP Q st' hq ρ' a' w' hr') ?_
        rintro e2 a2 w2 ⟨st2, ρ2, hr2, hq2, hf2⟩
        exact ⟨st2, ρ2, hr2, hq2, fab hf.fr hf.ok hf2⟩
      · have hp : q0 cx nt (fun e st' => Q e st' ∧ FrE (.seq a b) e st st') e a' w' := ⟨st', ρ', hr', by cases e <;> first | exact absurd rfl he | exact hq, fa he hf.ok hf.fr⟩
        cases e <;> first | exact absurd rfl he | exact hp
    · rename_i its hj
      intro ρ act w hr
      have h : sx bR P E I H nt a (AL1 bR its st (fun y => sx bR P E I H nt b Q (UZ its st (zB its (gI none a) st y))) Q) (OD its st) := h
      refine wp_seq ?_
      have h1 := iha (HT cx its st ρ w) hP _ _ h ρ act w (AW8 hr)
      refine wp_mono h1 ?_
      rintro e a' w' ⟨st', ρ', hr', hq, hf⟩
      obtain ⟨hf1, hk⟩ := hf.fr.BDX
      by_cases he : e = .normal
      · subst he
        obtain ⟨hok, y, hX, hy⟩ := G0 hq
        obtain ⟨ρ2, hr2⟩ := AC1 (A := gI none a) hr hr' (fun i hi => hf.fr.s i hi) hk hok hy
        have hr3 := AG7 hr hr2 A3L
        refine wp_mono (ihb cx hP Q _ hX ρ2 a' w' hr3) ?_
        rintro e2 a2 w2 ⟨st2, ρ2, hr2, hq2, hf2⟩
        exact ⟨st2, ρ2, hr2, hq2, fab A3I hf.ok hf2⟩
      · have := KT he hq
        have hp : q0 cx nt (fun e st' => Q e st' ∧ FrE (.seq a b) e st st') e a' w' := ⟨_, ρ', AG7 hr hr' hk, this, fa he hf.ok hf1⟩
        cases e <;> first | exact absurd rfl he | exact hp
  | cond c t e iht ihe =>
    intro cx hP Q st h ρ a w hr
    simp only [sx] at h
    split at h
    · rename_i b hb
      have hev := hr.evS c
      rw [hb] at hev
      have hval : a.eval c = .bool b := by
        generalize a.eval c = q at hev ⊢
        cases hev with
        | p _ _ h => cases h; rfl
      refine wp_cond hval ?_
      rw [pH] at h
      have f1 : ∀ {x : Exit} {st st1 : St}, FrE t x st st1 → FrE (.cond c t e) x st st1 := by
        intro x st st1 hf
        have h2 := hf.ok
        refine ⟨hf.fr.mono fun i hi => ?_, ?_⟩
        · cases x <;> simp only [jT, nQ, gI, N1] at hi h2 ⊢ <;> simp only [h2, Bool.true_and, Bool.or_eq_false_iff] at hi <;> exact hi.1
        · cases x <;> simp only [jT, ends] at h2 ⊢ <;> simp [h2]
      have f2 : ∀ {x : Exit} {st st1 : St}, FrE e x st st1 → FrE (.cond c t e) x st st1 := by
        intro x st st1 hf
        have h2 := hf.ok
        refine ⟨hf.fr.mono fun i hi => ?_, ?_⟩
        · cases x <;> simp only [jT, nQ, gI, N1] at hi h2 ⊢ <;> simp only [h2, Bool.true_and, Bool.or_eq_false_iff] at hi <;> exact hi.2
        · cases x <;> simp only [jT, ends] at h2 ⊢ <;> simp [h2]
      cases b with
      | true =>
        rw [if_pos rfl]
        refine wp_mono (iht cx hP Q st (by have := h.1 rfl; rwa [AIE hb] at this) ρ a w hr) ?_
        rintro e a' w' ⟨st', ρ', hr', hq, hf⟩
        exact ⟨st', ρ', hr', hq, f1 hf⟩
      | false =>
        rw [if_neg (by simp)]
        refine wp_mono (ihe cx hP Q st (by have := h.2 rfl; rwa [AIE hb] at this) ρ a w hr) ?_
        rintro e a' w' ⟨st', ρ', hr', hq, hf⟩
        exact ⟨st', ρ', hr', hq, f2 hf⟩
    · exact h.elim
  | block id b ih =>
    intro cx hP Q st h ρ a w hr
    refine wp_block (wp_mono (ih cx hP _ st h ρ a w hr) ?_)
    rintro e a' w' ⟨st', ρ', hr', hq, hf⟩
    have h2 := hf.ok
    cases e with
    | exit id' =>
      simp only [EL] at hq
      simp only [Exit.inBlock]
      split at hq
      · rename_i e
        rw [if_pos e]
        subst e
        refine ⟨st', ρ', hr', hq, hf.fr.mono fun i hi => ?_, ?_⟩
        · simp only [jT, nQ, gI] at hi h2 ⊢
          simp only [h2, Bool.true_and, Bool.or_eq_false_iff] at hi; exact hi.2
        · simp only [jT, ends] at h2 ⊢; simp [h2]
      · rename_i e
        rw [if_neg e]
        exact ⟨st', ρ', hr', hq, hf.fr.mono fun i hi => by simpa only [nQ, gI] using hi, by simpa only [jT, ends] using h2⟩
    | normal =>
      refine ⟨st', ρ', hr', hq, hf.fr.mono fun i hi => ?_, ?_⟩
      · simp only [jT, nQ, gI] at hi h2 ⊢
        simp only [h2, Bool.true_and, Bool.or_eq_false_iff] at hi; exact hi.1
      · simp only [jT, ends] at h2 ⊢; simp [h2]
    | _ => exact ⟨st', ρ', hr', hq, hf.fr.mono fun i hi => by simpa only [nQ, N1] using hi, rfl⟩
  | loop b ih =>
    intro cx hP Q st h ρ a w hr
    have fl : ∀ {e : Exit}, e ≠ .normal → jT b e = true → jT (.loop b) e = true ∧ ∀ i, nQ (.loop b) e i = false → (ends none b = true → gI none b i = false) ∧ nQ b e i = false := by
      intro e hne h2
      refine ⟨?_, fun i hi => ?_⟩
      · cases e <;> simp only [jT, ends] at h2 ⊢
        · exact absurd rfl hne
        · simp [h2]
      · cases e <;> simp only [nQ, gI, N1] at hi ⊢
        · exact absurd rfl hne
        · simp only [Bool.or_eq_false_iff] at hi
          exact ⟨fun h => by simpa [h] using hi.1, hi.2⟩
        all_goals exact ⟨fun _ => WK hi, hi⟩
    simp only [sx] at h
    split at h
    · rename_i n hl
      have key : ∀ (n : Nat) (st1 : St) (ρ : Nat → Option Loc) (a : Act) (w : World), Rel cx nt ρ st1 a w → (st1 = st ∨ ends none b = true) → Fr (gI none b) st st1 → unr bR (sx bR P E I H nt b) Q n st1 → BA cx.P b (q0 cx nt fun e st' => Q e st' ∧ FrE (.loop b) e st st') a w := by
        intro n
        induction n with
        | zero => intro st1 ρ a w hr _ hf h; exact h.elim
        | succ n ihn =>
          intro st1 ρ a w hr hor hf h
          refine BA.round (wp_mono (ih cx hP _ st1 h ρ a w hr) ?_)
          rintro e a2 w2 ⟨st2, ρ2, hr2, hq2, hf2⟩
          by_cases he : e = .normal
          · subst he
            exact ihn st2 ρ2 a2 w2 hr2 (.inr hf2.ok) (hf.trans hf2.fr) hq2
          · obtain ⟨g1, g2⟩ := fl he hf2.ok
            have hq2' : Q e st2 := by cases e <;> first | exact absurd rfl he | exact hq2
            have hfr : Fr (nQ (.loop b) e) st st2 := by
              rcases hor with rfl | hor
              · exact hf2.fr.mono fun i hi => (g2 i hi).2
              · exact (hf.mono fun i hi => (g2 i hi).1 hor).trans (hf2.fr.mono fun i hi => (g2 i hi).2)
            have hp : q0 cx nt (fun e st' => Q e st' ∧ FrE (.loop b) e st st') e a2 w2 := ⟨st2, ρ2, hr2, hq2', hfr, g1⟩
            cases e <;> first | exact absurd rfl he | exact hp
      exact (key n st ρ a w hr (.inl rfl) (Fr.refl _ _) h).wp
    · split at h
      · rename_i its hl
        split at h
        · rename_i hok
          obtain ⟨hok, hnn⟩ := (Bool.and_eq_true _ _).mp hok
          obtain ⟨y0, hloop, hy0⟩ := KX (L8 hok) h
          have hr1 := AW8 (its := its) hr
          obtain ⟨ρ1, hr2⟩ := AC1 (A := gI none b) hr hr1 (fun i _ => rfl) A3T hok hy0
          have key := hloop (fun y => ∀ ρ' a' w', Rel (HT cx its st ρ w) nt ρ' (zB its (gI none b) st y) a' w' → BA cx.P b (q0 cx nt fun e st' => Q e st' ∧ FrE (.loop b) e st st') a' w') (by
            intro y hb ρ' a' w' hr'
            refine BA.round (wp_mono (ih (HT cx its st ρ w) hP _ _ hb ρ' a' w' hr') ?_)
            rintro e a2 w2 ⟨st2, ρ2, hr2, hq2, hf2⟩
            by_cases he : e = .normal
            · subst he
              obtain ⟨hf1, hk⟩ := hf2.fr.A55 (D := gI none b) fun i hi => ⟨hi, hi⟩
              obtain ⟨hok2, y2, hX, hy2⟩ := G0 hq2
              obtain ⟨ρ3, hr3⟩ := AC1 (A := gI none b) hr hr2 (fun i hi => hf1.s i hi) hk hok2 hy2
              exact hX ρ3 a2 w2 hr3
            · obtain ⟨g1, g2⟩ := fl he hf2.ok
              by_cases hn : ends none b = true
              · obtain ⟨hf1, hk⟩ := hf2.fr.A55 (D := nQ (.loop b) e) fun i hi => ⟨(g2 i hi).1 hn, (g2 i hi).2⟩
                have := KT he hq2
                have hp : q0 cx nt (fun e st' => Q e st' ∧ FrE (.loop b) e st st') e a2 w2 := ⟨_, ρ2, AG7 hr hr2 hk, this, hf1, g1⟩
                cases e <;> first | exact absurd rfl he | exact hp
              · exact absurd hnn hn)
          exact (key ρ1 a w hr2).wp
        · exact h.elim
      · exact h.elim
  | exit id => exact fun cx hP Q st h ρ a w hr => wp_exit ⟨st, ρ, hr, h, Fr.refl _ _, by simp [jT, ends]⟩
  | ret => exact fun cx hP Q st h ρ a w hr => wp_ret ⟨st, ρ, hr, h, Fr.refl _ _, rfl⟩
  | rangeFunc _ _ _ _ => exact fun cx hP Q st h => h.elim
  | scope b ih =>
    intro cx hP Q st h ρ a w hr
    refine wp_scope_straight (wp_mono (ih cx hP _ st h ρ a w hr) ?_)
    rintro e a' w' ⟨st', ρ', hr', hq, hf⟩
    have h2 := hf.ok
    cases e with
    | goto l => exact hq.elim
    | normal => exact ⟨st', ρ', hr', hq, hf.fr.mono fun i hi => by simpa only [nQ, gI] using hi, by simpa only [jT, ends] using h2⟩
    | exit id => exact ⟨st', ρ', hr', hq, hf.fr.mono fun i hi => by simpa only [nQ, gI] using hi, by simpa only [jT, ends] using h2⟩
    | _ => exact ⟨st', ρ', hr', hq, hf.fr.mono fun i hi => by simpa only [nQ, N1] using hi, rfl⟩
  | goto _ => exact fun cx hP Q st h => h.elim
  | refuse _ => exact fun cx hP Q st h => h.elim
end
section
variable (C : iS) (P : Program) (E : Env) (Hs : FuncId → Hint)
def BDZ (rs : Array ResultVar) (K : KN) (e : Exit) (st : St) : Prop := match l8 e, AY1 P rs st with
  | true, some (d, σ', n') => K d σ' n'
  | _, _ => C.bad 601
def AEZ : Nat → Inl
  | 0 => fun _ _ _ _ _ => C.bad 602
  | k + 1 => fun fid args σ n K => match P.funcs[fid]? with
    | some fn => match fn.body, decide (args.length ≤ fn.ntmps) with
      | some c, true => sx C P E (AEZ k) (Hs fid) fn.ntmps c (BDZ C P fn.results K) (QX args σ n)
      | _, _ => C.bad 603
    | none => C.bad 604
def BEB (rs : Array ResultVar) (R : T → Prop) (e : Exit) (st : St) : Prop := match l8 e, BA5 P rs st with
  | true, some r => R r
  | _, _ => C.bad 701
def BD9 (rs : Array ResultVar) (R : List (List T) → Prop) (e : Exit) (st : St) : Prop := match l8 e, BA6 P rs st with
  | true, some r => R r
  | _, _ => C.bad 702
end
section
variable {P : Program} {E : Env} {Hs : FuncId → Hint}
theorem nF {e : Exit} (h : l8 e = true) : e = .normal ∨ e = .ret := by cases e <;> simp [l8] at h <;> simp
theorem pM (hn : cD P = true) {f : FuncId} {fn : Func} (hf : P.funcs[f]? = some fn) : (fn.name == "runtime.NumGoroutine") = false := by
  have := Array.all_eq_true_iff_forall_mem.1 hn fn (Array.mem_of_getElem? hf)
  simpa using this
theorem tL (hE : aQ P E) (hm : P.follows .mixedOrders = true) (hn : cD P = true) (hh : e8 E) : ∀ k, ACZ P (AEZ bR P E Hs k) := by
  intro k
  induction k with
  | zero => intro cx ρ σ n w fid args vs K hP hG hI ha h; exact h.elim
  | succ k ih =>
    intro cx ρ σ n w fid args vs K hP hG hI ha h
    simp only [AEZ] at h
    split at h
    · rename_i fn hf
      split at h
      · rename_i c hb hlen
        have hlen : args.length ≤ fn.ntmps := of_decide_eq_true hlen
        refine ⟨⟨fn, hf, pM hn hf, by simp [hb]⟩, ?_⟩
        subst hP
        let cx' : Cx := ⟨cx.P, cx.own, cx.w0, ρ, σ, w, cx.arg⟩
        have hI' : Inv cx' ρ σ n w := ⟨hI.boxes, hI.inj, hI.new, hI.pX, hI.below, hI.jG, hI.low⟩
        refine calls_of_wp hf hb ?_
        have hr : Rel cx' fn.ntmps ρ (QX args σ n) { tmps := vs ++ Array.replicate (fn.ntmps - vs.size) undef, defers := [] } w := IM hI' (bJ.refl _ _ _ _) hG ha hlen
        refine wp_mono (wY hE hm hh ih c cx' rfl _ (QX args σ n) h _ _ w hr) ?_
        rintro e a' w' ⟨st', ρ', hr', hq, hf'⟩
        unfold BDZ at hq
        split at hq
        · rename_i d σ' n' he hres
          obtain ⟨v, h1, h2, h3⟩ := AAR hr' hres
          simp only [Prod.mk.injEq] at h3
          obtain ⟨rfl, rfl⟩ := h3
          have hI2 : Inv cx ρ' st'.σ st'.n w' := ⟨hr'.inv.boxes, hr'.inv.inj, hr'.inv.new, hr'.inv.pX, hr'.inv.below, hr'.inv.jG, hr'.inv.low⟩
          have hk2 : bJ cx ρ ρ' σ st'.σ w w' := ⟨hr'.keeps.cell, hr'.keeps.size, hr'.keeps.own, hr'.keeps.loc, hr'.keeps.shape, hr'.keeps.ro⟩
          rcases nF he with rfl | rfl
          · exact ⟨hr'.defers, v, h1, v, ρ', d, st'.σ, st'.n, rfl, hI2, hk2, h2, hf'.fr.b, hq⟩
          · exact ⟨hr'.defers, v, h1, v, ρ', d, st'.σ, st'.n, rfl, hI2, hk2, h2, hf'.fr.b, hq⟩
        · exact hq.elim
      · exact h.elim
    · exact h.elim
def dH (C : iS) (P : Program) (E : Env) (Hs : FuncId → Hint) (k : Nat) (f : FuncId) (args : List T) (R : T → Prop) : Prop := match P.funcs[f]? with
  | some fn => match fn.body, decide (args.length ≤ fn.ntmps) with
    | some c, true => sx C P E (AEZ C P E Hs k) (Hs f) fn.ntmps c (BEB C P fn.results R) (st0 args)
    | _, _ => C.bad 703
  | none => C.bad 704
def NP (C : iS) (P : Program) (E : Env) (Hs : FuncId → Hint) (k : Nat) (f : FuncId) (args : List T) (R : List (List T) → Prop) : Prop := match P.funcs[f]? with
  | some fn => match fn.body, decide (args.length ≤ fn.ntmps) with
    | some c, true => sx C P E (AEZ C P E Hs k) (Hs f) fn.ntmps c (BD9 C P fn.results R) (st0 args)
    | _, _ => C.bad 703
  | none => C.bad 704
def BEA (C : iS) (P : Program) (c : Nat) (rs : Array ResultVar) (R : T → Prop) (e : Exit) (st : St) : Prop := match l8 e, BA7 P c rs st with
  | true, some cs => R (.agg cs)
  | _, _ => C.bad 705
def UU (C : iS) (P : Program) (E : Env) (Hs : FuncId → Hint) (k : Nat) (c : Nat) (f : FuncId) (args : List T) (R : T → Prop) : Prop := match P.funcs[f]? with
  | some fn => match fn.body, decide (args.length ≤ fn.ntmps) with
    | some cd, true => sx C P E (AEZ C P E Hs k) (Hs f) fn.ntmps cd (BEA C P c fn.results R) (st0 args)
    | _, _ => C.bad 703
  | none => C.bad 704
def ANK : D → Bool
  | .p t => t.flat
  | _ => false
def UY : D → T
  | .p t => t
  | _ => .v undef
def A33 (C : iS) (σ : Nat → Option a6) (d : D) (K : T → Prop) : Prop := match d with
  | .p t => match eW t with
    | some (_, []) => K (.sl false [])
    | _ => C.wP t.flat (K t)
  | .own k => match σ k with
    | some (.arr false _ rows) => C.wP (rows.all fun r => r.all T.flat) (K (.sl false rows))
    | _ => C.bad 801
  | .map k => match σ k with
    | some (.map false es) => C.wP (es.all fun e => ANK e.2) (K (.mp (es.map fun e => (e.1, UY e.2))))
    | _ => C.bad 802
  | _ => C.bad 803
def AXM (C : iS) (σ : Nat → Option a6) : List D → (List T → Prop) → Prop
  | [], K => K []
  | d :: l, K => A33 C σ d fun t => AXM C σ l fun ts => K (t :: ts)
def BBD (C : iS) (P : Program) (rs : Array ResultVar) (R : T → Prop) (e : Exit) (st : St) : Prop := match l8 e, uV P st rs.toList with
  | true, some [d] => A33 C st.σ d R
  | true, some ds => AXM C st.σ ds fun ts => R (.bU ts)
  | _, _ => C.bad 804
def uG (C : iS) (P : Program) (E : Env) (Hs : FuncId → Hint) (k : Nat) (f : FuncId) (args : List T) (R : T → Prop) : Prop := match P.funcs[f]? with
  | some fn => match fn.body, decide (args.length ≤ fn.ntmps) with
    | some c, true => sx C P E (AEZ C P E Hs k) (Hs f) fn.ntmps c (BBD C P fn.results R) (st0 args)
    | _, _ => C.bad 703
  | none => C.bad 704
theorem AIO {cx : Cx} {nt : Nat} {ρ : Nat → Option Loc} {st : St} {a : Act} {w : World} (hr : Rel cx nt ρ st a w) (hn : cx.arg = []) {d : D} {v : Value} (hd : Rd w (Own cx ρ st.σ) ρ d v) {K : T → Prop} (h : A33 bR st.σ d K) : ∃ t, K t ∧ cE w (fun b => b < cx.w0.heap.size) t v := by
  unfold A33 at h
  split at h
  · rename_i t
    cases hd with
    | p _ _ hd =>
    split at h
    · rename_i f hrow
      refine ⟨_, h, ?_⟩
      have := j9 hd hrow
      cases this with
      | cH _ a cap hf hn => exact .cH false a cap (by simp) hn
      | sl _ _ sz bG off cap fc k1 k2 k3 k4 k5 k6 k7 k8 k9 => exact .cH false _ cap (by simp) (by simp)
    · obtain ⟨hf, h⟩ := h
      exact ⟨_, h, hd.FO hf⟩
  · rename_i k
    split at h
    · rename_i z rows hσ
      obtain ⟨hf, h⟩ := h
      refine ⟨_, h, ?_⟩
      have this : cE w (fun _ => False) (.sl false rows) v := z8 (own0 := fun _ => False) (τ := st.σ) hr.inv (fun b hb => hb.elim) (fun _ _ h => h) (fun _ _ _ _ _ _ h => h) 1 hd (by simp [gL, hσ])
      have flatc : ∀ i j (hi : i < rows.length) (hj : j < rows[i].length), rows[i][j].flat = true := fun i j hi hj => List.all_eq_true.1 (List.all_eq_true.1 hf _ (List.getElem_mem hi)) _ (List.getElem_mem hj)
      cases hd with
      | own _ l hl hL h1 h2 =>
        have hm := hr.inv.ZT hn k _ l hσ hl hL rfl
        generalize hvv : (Value.slice (some ⟨l.bG, 0, none⟩) l.L l.C) = v at this
        cases this with
        | cH _ a cap hf hn => exact .cH false a cap (by simp) hn
        | sl _ _ sz bG off cap f k1 k2 k3 k4 k5 k6 k7 k8 k9 =>
          have e : l.bG = bG := by
            injection hvv with e1 e2 e3
            injection e1 with e1
            injection e1
          exact .sl false rows sz bG off cap f k1 k2 k3 (by show ¬ bG < _; omega) k5 k6 k7 k8 (fun i j hi hj => (k9 i j hi hj).FO (flatc i j hi hj))
      | dF _ l a hl hL =>
        generalize hvv : (Value.slice a 0 0) = v at this
        cases this with
        | cH _ a cap hf hn => exact .cH false a cap (by simp) hn
        | sl _ _ sz bG off cap f k1 k2 k3 k4 k5 k6 k7 k8 k9 =>
          have e : rows = [] := by
            injection hvv with e1 e2 e3
            exact List.eq_nil_of_length_eq_zero e2.symm
          subst e
          exact .cH false _ cap (by simp) (by simp)
    · exact h.elim
  · rename_i k
    split at h
    · rename_i es hσ
      obtain ⟨hf, h⟩ := h
      refine ⟨_, h, ?_⟩
      obtain ⟨l', ents, hl', hL, ho, hE⟩ := hr.inv.LX hσ
      cases hd with
      | map _ l hl =>
      have hll : l' = l := by rw [hl] at hl'; exact (Option.some.inj hl').symm
      subst hll
      have hm := hr.inv.ZT hn k _ l' hσ hl hL rfl
      have hlen : (es.map fun e => (e.1, UY e.2)).length = es.length := by simp
      have hex : ∀ i (hi : i < es.length), ∃ e, ents[i]? = some e ∧ e.key = es[i].1 ∧ e.born = i ∧ cE w (fun b => b < cx.w0.heap.size) (UY es[i].2) e.val := by
        intro i hi
        obtain ⟨e, a1, a2, a3, a4⟩ := hE.2 i hi
        have hp := List.all_eq_true.1 hf es[i] (List.getElem_mem hi)
        refine ⟨e, by rw [← Array.getElem?_toList]; exact a1, a2, by omega, ?_⟩
        generalize es[i].2 = d at hp a4
        cases d with
        | p t =>
          cases a4 with
          | p _ _ a4 => exact a4.FO hp
        | _ => cases hp
      refine .mp _ l'.bG ents (fun i => ents.getD i ⟨undef, undef, 0⟩) (by show ¬ l'.bG < _; omega) ((hr.inv.new k l' hl).2 hL).1 (by rw [hlen]; exact ho) (by rw [hlen]; simpa using hE.1) (fun i hi => ?_) (fun i hi => ?_)
      · obtain ⟨e, a1, a2, a3, _⟩ := hex i (by omega)
        rw [show ents.getD i ⟨undef, undef, 0⟩ = e by rw [Array.getD_eq_getD_getElem?, a1]; rfl]
        exact ⟨a1, by simpa using a2, a3⟩
      · obtain ⟨e, a1, _, _, a4⟩ := hex i (by omega)
        rw [show ents.getD i ⟨undef, undef, 0⟩ = e by rw [Array.getD_eq_getD_getElem?, a1]; rfl]
        simpa using a4
    · exact h.elim
  · exact h.elim
theorem Z0 {cx : Cx} {nt : Nat} {ρ : Nat → Option Loc} {st : St} {a : Act} {w : World} (hr : Rel cx nt ρ st a w) (hn : cx.arg = []) : ∀ {ds : List D} {vs : List Value} {K : List T → Prop}, cT (Rd w (Own cx ρ st.σ) ρ) ds vs.toArray → AXM bR st.σ ds K → ∃ ts, K ts ∧ cT (cE w (fun b => b < cx.w0.heap.size)) ts vs.toArray
  | [], vs, K, ha, h => by
    have : vs = [] := by simpa using ha.1
    subst this
    exact ⟨[], h, cT.nil⟩
  | d :: ds, vs, K, ha, h => by
    cases vs with
    | nil => have := ha.1; simp at this
    | cons v vs =>
      have h0 := ha.2 0 (by simp)
      have ht : cT (Rd w (Own cx ρ st.σ) ρ) ds vs.toArray := ⟨by have := ha.1; simp at this ⊢; exact this, fun i hi => by
        have := ha.2 (i + 1) (by simp; omega)
        simpa using this⟩
      obtain ⟨t, k1, k2⟩ := AIO hr hn (by simpa using h0) h
      obtain ⟨ts, k3, k4⟩ := Z0 hr hn ht k1
      refine ⟨t :: ts, k3, ?_⟩
      have := (cT.one (R := cE w (fun b => b < cx.w0.heap.size)) k2).append k4
      simpa using this
theorem AZ1 {cx : Cx} {nt : Nat} {ρ : Nat → Option Loc} {st : St} {a : Act} {w : World} (hr : Rel cx nt ρ st a w) (hn : cx.arg = []) {fn : Func} {R : T → Prop} {e : Exit} (h : BBD bR cx.P fn.results R e st) :
    l8 e = true ∧ ∃ v t, (results fn a.tmps).run cx.P w = .ok v w ∧ R t ∧ cE w (fun b => b < cx.w0.heap.size) t v := by
  have run : ∀ {ds : List D}, uV cx.P st fn.results.toList = some ds → ∃ vs : Array Value, (fn.results.mapM (tT a.tmps)).run cx.P w = .ok vs w ∧ cT (Rd w (Own cx ρ st.σ) ρ) ds vs := by
    intro ds hds
    obtain ⟨vs, h1, h2⟩ := nK hr hds
    refine ⟨vs.toArray, ?_, h2⟩
    rw [Array.mapM_eq_mapM_toList, Sem.run_map, h1]
    rfl
  unfold BBD at h
  split at h
  · rename_i d he hd
    refine ⟨he, ?_⟩
    obtain ⟨vs, h1, h2⟩ := run hd
    have hs : vs.size = 1 := by simpa using h2.1
    have h3 := h2.2 0 (by simp)
    have h4 : vs.getD 0 undef = vs[0] := by simp [Array.getD, hs]
    rw [h4] at h3
    obtain ⟨t, k1, k2⟩ := AIO hr hn h3 h
    refine ⟨vs[0], t, ?_, k1, k2⟩
    rw [gC, Sem.run_bind, h1]
    simp [hs]
  · rename_i ds hne he hds
    refine ⟨he, ?_⟩
    obtain ⟨vs, h1, h2⟩ := run hds
    have hs : ¬ vs.size = 1 := by
      intro hs
      rw [h2.1] at hs
      obtain ⟨d, rfl⟩ := List.length_eq_one_iff.1 hs
      exact hne d rfl
    obtain ⟨ts, k1, k2⟩ := Z0 hr hn (vs := vs.toList) (by simpa using h2) h
    refine ⟨.tuple vs, .bU ts, ?_, k1, .bU ts vs (by simpa using k2.1) (by simpa using k2.2)⟩
    rw [gC, Sem.run_bind, h1]
    simp [hs]
  · exact h.elim
theorem ZZ (hE : aQ P E) (hm : P.follows .mixedOrders = true) (hn : cD P = true) (hh : e8 E) (k : Nat) {f : FuncId} {g : List T → Option T} (hex : ∃ fn c, P.funcs[f]? = some fn ∧ fn.body = some c)
    (h : ∀ args r, g args = some r → (∀ t ∈ args, Bd t) → uG bR P E Hs k f args (fun x => x = r)) : jS P f g := by
  obtain ⟨fn, c, hf, hb⟩ := hex
  refine ⟨⟨fn, hf, pM hn hf, by simp [hb]⟩, fun w own args vs r hG hown ha hg => ?_⟩
  have hbd : ∀ t ∈ args, Bd t := by
    intro t ht
    obtain ⟨i, hi, rfl⟩ := List.mem_iff_getElem.1 ht
    exact (ha.2 i hi).bd
  have hs := h args r hg hbd
  simp only [uG, hf, hb] at hs
  split at hs
  · rename_i c' he hlen
    cases he
    have hlen : args.length ≤ fn.ntmps := of_decide_eq_true hlen
    let cx : Cx := N5 P own w
    refine calls_of_wp hf hb ?_
    refine wp_mono (wY hE hm hh (tL hE hm hn hh k) c cx rfl _ (st0 args) hs _ _ w (IL (P := P) (nt := fn.ntmps) hG hown ha hlen)) ?_
    rintro e a' w' ⟨st', ρ', hr', hq, _⟩
    obtain ⟨he, v, t, h1, rfl, h2⟩ := AZ1 hr' rfl hq
    rcases nF he with rfl | rfl
    · exact ⟨hr'.defers, v, h1, v, rfl, h2, hr'.inv.below.toB⟩
    · exact ⟨hr'.defers, v, h1, v, rfl, h2, hr'.inv.below.toB⟩
  · exact hs.elim
theorem FR (hE : aQ P E) (hm : P.follows .mixedOrders = true) (hn : cD P = true) (hh : e8 E) (k : Nat) {f : FuncId} {g : List T → Option T} (hex : ∃ fn c, P.funcs[f]? = some fn ∧ fn.body = some c)
    (h : ∀ args r, g args = some r → (∀ t ∈ args, Bd t) → dH bR P E Hs k f args (fun x => x = r)) : aN P f g := by
  obtain ⟨fn, c, hf, hb⟩ := hex
  refine ⟨⟨fn, hf, pM hn hf, by simp [hb]⟩, fun w own args vs r hG hown ha hg => ?_⟩
  have hbd : ∀ t ∈ args, Bd t := by
    intro t ht
    obtain ⟨i, hi, rfl⟩ := List.mem_iff_getElem.1 ht
    exact (ha.2 i hi).bd
  have hs := h args r hg hbd
  simp only [dH, hf, hb] at hs
  split at hs
  · rename_i c' he hlen
    cases he
    have hlen : args.length ≤ fn.ntmps := of_decide_eq_true hlen
    let cx : Cx := N5 P own w
    refine calls_of_wp hf hb ?_
    refine wp_mono (wY hE hm hh (tL hE hm hn hh k) c cx rfl _ (st0 args) hs _ _ w (IL (P := P) (nt := fn.ntmps) hG hown ha hlen)) ?_
    rintro e a' w' ⟨st', ρ', hr', hq, _⟩
    unfold BEB at hq
    split at hq
    · rename_i r' he hres
      subst hq
      obtain ⟨v, h1, h2⟩ := AYZ hr' hres
      rcases nF he with rfl | rfl
      · exact ⟨hr'.defers, v, h1, v, rfl, h2, hr'.inv.below.toB⟩
      · exact ⟨hr'.defers, v, h1, v, rfl, h2, hr'.inv.below.toB⟩
    · exact hq.elim
  · exact hs.elim
theorem LD (hE : aQ P E) (hm : P.follows .mixedOrders = true) (hn : cD P = true) (hh : e8 E) (k : Nat) {f : FuncId} {g : List T → Option (List (List T))} (hex : ∃ fn c, P.funcs[f]? = some fn ∧ fn.body = some c)
    (h : ∀ args r, g args = some r → (∀ t ∈ args, Bd t) → NP bR P E Hs k f args (fun x => x = r)) : eH P f g := by
  obtain ⟨fn, c, hf, hb⟩ := hex
  refine ⟨⟨fn, hf, pM hn hf, by simp [hb]⟩, fun w own args vs r hG hown ha hg => ?_⟩
  have hbd : ∀ t ∈ args, Bd t := by
    intro t ht
    obtain ⟨i, hi, rfl⟩ := List.mem_iff_getElem.1 ht
    exact (ha.2 i hi).bd
  have hs := h args r hg hbd
  simp only [NP, hf, hb] at hs
  split at hs
  · rename_i c' he hlen
    cases he
    have hlen : args.length ≤ fn.ntmps := of_decide_eq_true hlen
    let cx : Cx := N5 P own w
    refine calls_of_wp hf hb ?_
    refine wp_mono (wY hE hm hh (tL hE hm hn hh k) c cx rfl _ (st0 args) hs _ _ w (IL (P := P) (nt := fn.ntmps) hG hown ha hlen)) ?_
    rintro e a' w' ⟨st', ρ', hr', hq, _⟩
    unfold BD9 at hq
    split at hq
    · rename_i r' he hres
      subst hq
      obtain ⟨v, h1, h2, h3⟩ := AY0 hr' rfl hres
      rcases nF he with rfl | rfl
      · exact ⟨hr'.defers, v, h1, v, rfl, hr'.inv.below.toB, h2, h3⟩
      · exact ⟨hr'.defers, v, h1, v, rfl, hr'.inv.below.toB, h2, h3⟩
    · exact hq.elim
  · exact hs.elim
theorem AOS (hE : aQ P E) (hm : P.follows .mixedOrders = true) (hn : cD P = true) (hh : e8 E) (k : Nat) {f : FuncId} {ci : Nat} {g : List T → Option T} (hex : ∃ fn c, P.funcs[f]? = some fn ∧ fn.body = some c)
    (h : ∀ args r, g args = some r → (∀ t ∈ args, Bd t) → UU bR P E Hs k ci f args (fun x => x = r)) : J1 P f ci g := by
  obtain ⟨fn, c, hf, hb⟩ := hex
  refine ⟨⟨fn, hf, pM hn hf, by simp [hb]⟩, fun w own args vs r hG hown ha hg => ?_⟩
  have hbd : ∀ t ∈ args, Bd t := by
    intro t ht
    obtain ⟨i, hi, rfl⟩ := List.mem_iff_getElem.1 ht
    exact (ha.2 i hi).bd
  have hs := h args (.agg r) hg hbd
  simp only [UU, hf, hb] at hs
  split at hs
  · rename_i c' he hlen
    cases he
    have hlen : args.length ≤ fn.ntmps := of_decide_eq_true hlen
    let cx : Cx := N5 P own w
    refine calls_of_wp hf hb ?_
    refine wp_mono (wY hE hm hh (tL hE hm hn hh k) c cx rfl _ (st0 args) hs _ _ w (IL (P := P) (nt := fn.ntmps) hG hown ha hlen)) ?_
    rintro e a' w' ⟨st', ρ', hr', hq, _⟩
    unfold BEA at hq
    split at hq
    · rename_i r' he hres
      cases hq
      obtain ⟨vc, h1, h2, h3⟩ := AY2 hr' rfl hres
      rcases nF he with rfl | rfl
      · exact ⟨hr'.defers, _, h1, vc, rfl, hr'.inv.below.toB, h2, h3⟩
      · exact ⟨hr'.defers, _, h1, vc, rfl, hr'.inv.below.toB, h2, h3⟩
    · exact hq.elim
  · exact hs.elim
def AIQ : Fn → Bool
  | .heap _ => false
  | _ => true
theorem aL : ∀ {l : List (FuncId × Fn)}, l.all (fun x => AIQ x.2) = true → e8 (Env.of l)
  | [], _, f, g, h => by simp [Env.of] at h
  | (k, x) :: l, hl, f, g, h => by
    simp only [List.all_cons, Bool.and_eq_true] at hl
    simp only [Env.of] at h
    split at h
    · cases h; simp [AIQ] at hl
    · exact aL hl.2 f g h
end
end Go.Pv
