/-
  The symbolic executor, part g: code, and functions.
-/
import Derived.Test.YtjledgajjgkbhaaGreatDoorVapkf
set_option linter.defProp false
set_option linter.unusedSimpArgs false
namespace Go.Pv
open Go Go.RowKit
inductive LH where
  | none
  | inv (its : List It)
  | alt (a b : List It)
  | YU (n : Nat)
  | alts (l : List (List It))
structure Hint where
  loop : Nat → LH
  join : Nat → Nat → Option (List It)
  ent : Nat → Ent
def bI : Hint := ⟨fun _ => .none, fun _ _ => none, fun _ => none⟩
def uU : Code → Option Nat
  | .region id _ _ => some id
  | .seq a b => match uU a with
    | some i => some i
    | none => uU b
  | .cond _ a b => match uU a with
    | some i => some i
    | none => uU b
  | .block _ b => uU b
  | .scope b => uU b
  | .loop b => uU b
  | _ => none
def JX : Code → Option Nat
  | .region id _ _ => some id
  | .seq a b => match JX b with
    | some i => some i
    | none => JX a
  | .cond _ a b => match JX b with
    | some i => some i
    | none => JX a
  | .block _ b => JX b
  | .scope b => JX b
  | .loop b => JX b
  | _ => none
def AAY (i : Nat) : List Oper → Bool
  | [] => false
  | o :: l => (match o.dst with
    | some t => t == i
    | none => false) || AAY i l
def Y0 : Code → Nat → Bool
  | .region _ ops _, i => AAY i ops.toList
  | .seq a b, i => Y0 a i || Y0 b i
  | .cond _ a b, i => Y0 a i || Y0 b i
  | .block _ b, i => Y0 b i
  | .scope b, i => Y0 b i
  | .loop b, i => Y0 b i
  | _, _ => false
def ends (t : Option Nat) : Code → Bool
  | .skip => t.isNone
  | .label _ => t.isNone
  | .region _ _ _ => t.isNone
  | .seq a b => (ends none a && ends t b) || (t.isSome && ends t a)
  | .cond _ a b => ends t a || ends t b
  | .block id b => match t with
    | none => ends none b || ends (some id) b
    | some j => ends (some j) b
  | .loop b => t.isSome && ends t b
  | .scope b => ends t b
  | .exit id => match t with
    | none => false
    | some j => j == id
  | _ => false
def iG (t : Option Nat) : Code → Nat → Bool
  | .region _ ops _, i => AAY i ops.toList
  | .seq a b, i => (ends none a && ends t b && (iG none a i || iG t b i)) || (t.isSome && ends t a && iG t a i)
  | .cond _ a b, i => (ends t a && iG t a i) || (ends t b && iG t b i)
  | .block id b, i => match t with
    | none => (ends none b && iG none b i) || (ends (some id) b && iG (some id) b i)
    | some j => iG (some j) b i
  | .loop b, i => (ends none b && iG none b i) || iG t b i
  | .scope b, i => iG t b i
  | _, _ => false
def oV (c : Code) : Exit → Nat → Bool
  | .normal => iG none c
  | .exit id => iG (some id) c
  | _ => Y0 c
def kR (c : Code) : Exit → Bool
  | .normal => ends none c
  | .exit id => ends (some id) c
  | _ => true
theorem NM : ∀ {l : List Oper} {o : Oper} {t : Tmp}, o ∈ l → o.dst = some t → AAY t l = true
  | [], _, _, h, _ => by cases h
  | a :: l, o, t, h, ht => by
    simp only [AAY, Bool.or_eq_true]
    rcases List.mem_cons.1 h with rfl | h
    · simp_all
    · exact .inr (NM h ht)
def BA7 (H : Hint) (a : Code) : Option (List It) := match uU a, JX a with
  | some i, some j => H.join i j
  | _, _ => none
def fits (st : St) : List It → Bool
  | [] => true
  | .arr k _ _ :: l => (match st.σ k with
    | some (.arr _ _ _) => true
    | _ => false) && fits st l
  | .own t _ _ :: l => (match st.s t with
    | .own _ => true
    | .p t => (match fK t with
      | some (true, []) => true
      | _ => false)
    | _ => false) && fits st l
  | .box k _ :: l => (match st.σ k with
    | some (.rows _ _) => true
    | _ => false) && fits st l
  | .map k _ _ _ :: l => (match st.σ k with
    | some (.map _ _) => true
    | _ => false) && fits st l
  | .cD k :: l => (match st.σ k with
    | some (.cD _ _ _ _) => true
    | _ => false) && fits st l
  | _ :: l => fits st l
def BCQ (h : LH) (st : St) : Option (List It) := match h with
  | .inv its => some its
  | .alt a b => match fits st a with
    | true => some a
    | false => some b
  | .alts l => l.find? fun its => fits st its
  | _ => none
def BBA (H : Hint) (b : Code) : LH := match uU b with
  | some i => H.loop i
  | none => .none
section
variable (C : fP) (P : Program) (E : Env) (I : Inl) (H : Hint) (nt : Nat)
def A8M (ops : List Oper) (st : St) : Nat → Operand → Option Nat
  | 0, _ => none
  | f + 1, x => match ev (cB true st.s) x with
    | .ptr k _ _ => some k
    | _ => match x with
      | .tmp t => match ops.find? (fun o => o.dst == some t) with
        | some o => match o.op with
          | .fieldAddr _ a _ => A8M ops st f a
          | _ => none
        | none => none
      | _ => none
def BFQ (ops : Array Oper) (st : St) : Option Nat := ops.toList.foldl (fun m o => match o.op with
  | .store _ a _ => match A8M ops.toList st 6 a, m with
    | some k, some m => some (min k m)
    | _, _ => none
  | _ => m) (some st.n)
def AZY (E : Env) (ops : Array Oper) : Option Nat := ((List.range ops.size).filter fun i => match ops[i]? with
  | some o => match o.op with
    | .call c => match c.callee with
      | .value (.tmp _) => true
      | .value (.func f) => (E f).isNone
      | _ => false
    | _ => false
  | none => false).getLast?
def A8P (E : Env) (ops : Array Oper) : Option Nat := match AZY E ops with
  | some t => match W0 E ops t with
    | true => some t
    | false => none
  | none => none
def BFR (E : Env) (ops : Array Oper) : Bool := ops.toList.all fun o => match bV false E ops o with
  | .cp => false
  | _ => true
def BE2 (id : Nat) (ops : Array Oper) (draw : Bool) (st : St) (K : St → Prop) : Prop :=
  match draw with
  | false => evK C P E nt I (H.ent id) false ops ops.toList st K
  | true => match A8P E ops with
   | some t => uS false C P E nt ops st.n (List.range t) (fA ops st) fun st1 => evK C P E nt I none false ops (ops.toList.drop t) st1 K
   | none => match rS E ops with
    | true => evK C P E nt I none true ops ops.toList st K
    | false => match sG false E ops with
      | true => uS false C P E nt ops st.n (D0 false E ops) (fA ops st) K
      | false => match (sG true E ops && A59 ops) && !(E.marked 9000000000), BFQ ops st with
       | true, some base => match Nat.ble base st.n with
        | true => uS true C P E nt ops base (D0 true E ops) (fA ops st) K
        | false => C.bad 510
       | _, _ => match Nat.ble ops.size 7 && BFR E ops with
        | true => anyS C P E nt ops K ops.size (Array.replicate ops.size false) st
        | false => match ARH false E ops with
          | true => M6 false C P E nt ops st.n (wI ops.toList []) K ops.size (Array.replicate ops.size false) (fA ops st)
          | false => C.bad 501
def APO (its : List It) (st₀ : St) (X : G6.den its → Prop) (Q : Exit → St → Prop) : Exit → St → Prop
  | .normal, st => match J0 its st₀ st with
    | true => AXG C st₀ st its X
    | false => C.bad 502
  | e, st => Q e (YT its st₀ st)
def unr (F : (Exit → St → Prop) → St → Prop) (Q : Exit → St → Prop) : Nat → St → Prop
  | 0, _ => C.bad 503
  | n + 1, st => F (fun e st' => match e with
    | .normal => unr F Q n st'
    | e => Q e st') st
def A5X (c : Operand) (b : Bool) (st : St) : St := match c with
  | .tmp t => match st.s t with
    | .p (.v (.bool _)) => ⟨bY st.s t (.p (.v (.bool b))), st.σ, st.n⟩
    | _ => st
  | _ => st
def sx : Code → (Exit → St → Prop) → St → Prop
  | .skip, Q, st => Q .normal st
  | .label _, Q, st => Q .normal st
  | .region id ops draw, Q, st => BE2 C P E I H nt id ops draw st (Q .normal)
  | .seq a b, Q, st => match BA7 H a with
    | none => sx a (AEQ (sx b Q) Q) st
    | some its => C.join (G6.den its) (fun X => sx a (APO C its st X Q) (RD its st)) fun y => sx b Q (YT its st (BF its (iG none a) st y))
  | .cond c t e, Q, st => match ev (cB true st.s) c with
    | .p (.v (.bool b)) => aD b (sx t Q (A5X c true st)) (sx e Q (A5X c false st))
    | _ => C.bad 504
  | .block id b, Q, st => sx b (G9 id Q) st
  | .loop b, Q, st => match BBA H b with
    | .YU n => unr C (sx b) Q n st
    | h => match BCQ h st with
      | some its => match J0 its st (RD its st) && ends none b with
        | true => AXG C st (RD its st) its fun y => C.loop (G6.den its) (fun X y => sx b (APO C its st X Q) (BF its (iG none b) st y)) y
        | false => C.bad 505
      | none => C.bad 506
  | .exit id, Q, st => Q (.exit id) st
  | .ret, Q, st => Q .ret st
  | .scope b, Q, st => sx b (WX Q) st
  | _, _, _ => C.bad 507
end
theorem AL9 {c : Operand} {b : Bool} {st : St} (h : ev (cB true st.s) c = .p (.v (.bool b))) : A5X c b st = st := by
  unfold A5X
  split
  · rename_i t
    split
    · rename_i b' hb
      have : b' = b := by
        simp only [ev, cB, hb, strip] at h
        cases h; rfl
      subst this
      have : bY st.s t (.p (.v (.bool b'))) = st.s := by
        funext i
        by_cases e : i = t
        · simp_all
        · rw [bK _ _ e]
      rw [this]
    · rfl
  · rfl
def DV (P : Program) (b : Code) (Q : Exit → Act → World → Prop) (a : Act) (w : World) : Prop :=
  ∀ (fb : Frame) (k : List Item) (cs : List Frame), ∃ e a' w', Q e a' w' ∧ Arrives P (lone (fb.at a (.code b :: .inLoop b :: k)) cs w) fb k cs e a' w'
theorem DV.wp {P : Program} {b : Code} {Q : Exit → Act → World → Prop} {a : Act} {w : World} (h : DV P b Q a w) : (Code.loop b).wp P Q a w := by
  intro fb k cs
  obtain ⟨e, a', w', hq, harr⟩ := h fb k cs
  exact ⟨e, a', w', hq, .of_steps (.one step_loop) harr⟩
theorem DV.round {P : Program} {b : Code} {Q : Exit → Act → World → Prop} {a : Act} {w : World} (h : b.wp P (fun e a w => match e with
    | .normal => DV P b Q a w
    | e => Q e a w) a w) : DV P b Q a w := by
  intro fb k cs
  obtain ⟨e, a₁, w₁, hq, harr⟩ := h fb (.inLoop b :: k) cs
  cases e with
  | normal =>
    obtain ⟨e₂, a₂, w₂, hq₂, harr₂⟩ := hq fb k cs
    exact ⟨e₂, a₂, w₂, hq₂, .of_steps (Steps.trans harr (.one step_inLoop)) harr₂⟩
  | exit id => exact ⟨_, a₁, w₁, hq, .pass (x := .inLoop b) rfl (fun _ _ => .inl (by simp)) harr⟩
  | goto l => exact ⟨_, a₁, w₁, hq, .pass (x := .inLoop b) rfl (fun _ _ => .inl (by simp)) harr⟩
  | ret => exact ⟨_, a₁, w₁, hq, .pass (x := .inLoop b) rfl (fun _ _ => .inl (by simp)) harr⟩
  | panic ch => exact ⟨_, a₁, w₁, hq, .pass (x := .inLoop b) rfl (fun _ _ => .inl (by simp)) harr⟩
  | outgrown => exact ⟨_, a₁, w₁, hq, .pass (x := .inLoop b) rfl (fun _ _ => .inl (by simp)) harr⟩
section
variable {P : Program} {E : Env} {I : Inl} {H : Hint} {nt : Nat}
theorem Fr.A8F {its : List It} {A B D : Nat → Bool} {st₀ st : St} {y : G6.den its} (h : Fr B (BF its A st₀ y) st) (hD : ∀ i, D i = false → A i = false ∧ B i = false) : Fr D st₀ (YT its st₀ st) ∧ ∀ k x, kept its st₀ k = true → st₀.σ k = some x → st.σ k = some (lock x) := by
  have hk : ∀ k x, kept its st₀ k = true → st₀.σ k = some x → st.σ k = some (lock x) := by
    intro k x hke hx
    obtain ⟨hlt, x0, h0, h1, _⟩ := mB hke
    rw [hx] at h0; cases h0
    exact h.b.2 k (lock x) (by show k < st₀.n + wQ its; omega) (by simp only [BF, decide_eq_true hlt, hke, hx, Option.map_some]) h1
  refine ⟨⟨fun i hi => ?_, ?_, fun k x hlt hx hw => ?_⟩, hk⟩
  · obtain ⟨h1, h2⟩ := hD i hi
    have := h.s i h2
    simp only [BF, h1] at this
    exact this
  · have := h.b.1
    simp only [BF] at this
    show st₀.n ≤ st.n
    omega
  · have hke := E9 (its := its) hlt hx hw
    simp only [YT, hke, hx]
theorem Fr.BEY {its : List It} {A : Nat → Bool} {st₀ st : St} (h : Fr A (RD its st₀) st) : Fr A st₀ (YT its st₀ st) ∧ ∀ k x, kept its st₀ k = true → st₀.σ k = some x → st.σ k = some (lock x) := by
  have hk : ∀ k x, kept its st₀ k = true → st₀.σ k = some x → st.σ k = some (lock x) := by
    intro k x hke hx
    obtain ⟨hlt, x0, h0, h1, _⟩ := mB hke
    rw [hx] at h0; cases h0
    exact h.b.2 k (lock x) hlt (by simp only [RD, hke, hx, Option.map_some]) h1
  refine ⟨⟨fun i hi => h.s i hi, h.b.1, fun k x hlt hx hw => ?_⟩, hk⟩
  have hke := E9 (its := its) hlt hx hw
  simp only [YT, hke, hx]
theorem A5L {its : List It} {A : Nat → Bool} {st₀ : St} {y : G6.den its} : Fr A st₀ (YT its st₀ (BF its A st₀ y)) := by
  refine ⟨fun i hi => ?_, ?_, fun k x hlt hx hw => ?_⟩
  · simp only [YT, BF, hi]
  · show st₀.n ≤ st₀.n + wQ its
    omega
  · have hke := E9 (its := its) hlt hx hw
    simp only [YT, hke, hx]
theorem A5R {its : List It} {A : Nat → Bool} {st₀ : St} {y : G6.den its} : ∀ k x, kept its st₀ k = true → st₀.σ k = some x → (BF its A st₀ y).σ k = some (lock x) := by
  intro k x hke hx
  obtain ⟨hlt, _⟩ := mB hke
  simp only [BF, decide_eq_true hlt, hke, hx, Option.map_some]
theorem A5Y {its : List It} {st₀ : St} : ∀ k x, kept its st₀ k = true → st₀.σ k = some x → (RD its st₀).σ k = some (lock x) := by
  intro k x hke hx
  simp only [RD, hke, hx, Option.map_some]
theorem AGR {cx : Cx} {its : List It} {A : Nat → Bool} {st₀ st : St} {y : G6.den its} {ρ₀ ρ : Nat → Option Loc} {a₀ a : Act} {w₀ w : World} (hR0 : Rel cx nt ρ₀ st₀ a₀ w₀) (hR : Rel (KJ cx its st₀ ρ₀ w₀) nt ρ st a w) (hs : ∀ i, A i = false → st.s i = st₀.s i)
    (hk : ∀ k x, kept its st₀ k = true → st₀.σ k = some x → st.σ k = some (lock x)) (hok : J0 its st₀ st = true) (hy : ALB st₀.n st₀ st its y) : ∃ ρ', Rel (KJ cx its st₀ ρ₀ w₀) nt ρ' (BF its A st₀ y) a w := by
  have hdom : ∀ k l, ρ₀ k = some l → k < st₀.n := fun k l hl => (hR0.inv.new k l hl).1
  refine A4D hR (fun i _ => (hR0.nD i).blw hdom) (fun k x hx => ?_) hdom (fun k x hx hw => ?_) hs hk hok hy
  · obtain ⟨l, _, hb⟩ := hR0.inv.boxes k x hx
    exact hb.blw hdom
  · change (RD its st₀).σ k = some x at hx
    cases hke : kept its st₀ k with
    | true => rfl
    | false =>
      simp only [RD, hke] at hx
      obtain ⟨l, hl, _⟩ := hR0.inv.boxes k x hx
      rw [E9 (hdom k l hl) hx hw] at hke
      cases hke
theorem O5 {its : List It} {st₀ st : St} (h : J0 its st₀ st = true) : KK st₀.n its = true := by
  unfold J0 at h
  simp_all
theorem JI {its : List It} {st₀ st : St} {X : G6.den its → Prop} {Q : Exit → St → Prop} (h : APO bR its st₀ X Q .normal st) : J0 its st₀ st = true ∧ ∃ y, X y ∧ ALB st₀.n st₀ st its y := by
  simp only [APO] at h
  split at h
  · rename_i hok
    exact ⟨hok, NU (O5 hok) h⟩
  · exact h.elim
theorem NR {its : List It} {st₀ st : St} {X : G6.den its → Prop} {Q : Exit → St → Prop} {e : Exit} (he : e ≠ .normal) (h : APO bR its st₀ X Q e st) : Q e (YT its st₀ st) := by
  cases e <;> first | exact h | exact absurd rfl he
theorem AAI {t : Option Nat} : ∀ {c : Code} {i : Nat}, Y0 c i = false → iG t c i = false := by
  intro c
  induction c generalizing t with
  | seq a b iha ihb =>
    intro i h
    simp only [Y0, Bool.or_eq_false_iff] at h
    simp only [iG, iha (t := none) h.1, iha (t := t) h.1, ihb (t := t) h.2, Bool.or_false, Bool.and_false]
  | cond c a b iha ihb =>
    intro i h
    simp only [Y0, Bool.or_eq_false_iff] at h
    simp only [iG, iha (t := t) h.1, ihb (t := t) h.2, Bool.or_false, Bool.and_false]
  | block id b ih =>
    intro i h
    cases t with
    | none => simp only [iG, ih (t := none) h, ih (t := some id) h, Bool.and_false, Bool.or_false]
    | some j => simp only [iG, ih (t := some j) h]
  | loop b ih =>
    intro i h
    simp only [iG, ih (t := none) h, ih (t := t) h, Bool.and_false, Bool.or_false]
  | region id ops draw => intro i h; exact h
  | scope b ih =>
    intro i h
    simp only [iG, ih (t := t) h]
  | _ => intro i h; rfl
structure FrE (c : Code) (e : Exit) (st st' : St) : Prop where
  fr : Fr (oV c e) st st'
  ok : kR c e = true
theorem oS (hE : aT P E) (hm : P.follows .mixedOrders = true) (hh : eH E) (hI : AGP P I) : ∀ (c : Code) (cx : Cx), cx.P = P → ∀ (Q : Exit → St → Prop) (st : St), sx bR P E I H nt c Q st → AW cx nt c (fun e st' => Q e st' ∧ FrE c e st st') st := by
  intro c
  induction c with
  | skip => exact fun cx hP Q st h ρ a w hr => wp_skip ⟨st, ρ, hr, h, Fr.refl _ _, rfl⟩
  | label l => exact fun cx hP Q st h ρ a w hr => wp_label ⟨st, ρ, hr, h, Fr.refl _ _, rfl⟩
  | region id ops draw =>
    intro cx hP Q st h
    subst hP
    have hA : ∀ o ∈ ops.toList, ∀ t, o.dst = some t → oV (.region id ops draw) .normal t = true := fun o ho t ht => NM ho ht
    simp only [sx, BE2] at h
    split at h
    · intro ρ a w hr
      refine wp_region ?_
      have := xD (Q := sA cx nt fun e st' => Q e st' ∧ FrE (.region id ops false) e st st') hE hh hI (fun st' ρ a w hr' hf hk => ⟨st', ρ, hr', hk, hf, rfl⟩) ops.toList 0 st ρ a w (by simp) hA (Fr.refl _ _) hr h
      rw [List.range_eq_range']
      simpa using this
    · split at h
      · rename_i t htail
        have hT : W0 E ops t = true := by
          unfold A8P at htail
          split at htail
          · split at htail
            · cases htail; assumption
            · cases htail
          · cases htail
        obtain ⟨st1, h1, h2, h3⟩ := D7 hh hA (List.range t) (fA ops st) (Fr.refl _ _) h
        have hroom : Fr (oV (.region id ops true) .normal) st (fA ops st) := ⟨fun _ _ => rfl, qZ.same (n' := (fA ops st).n) (Nat.le_add_right _ _)⟩
        refine AS1 hE hm hT h1 fun ρ a w hr => ?_
        have := xD (Q := sA cx nt fun e st' => Q e st' ∧ FrE (.region id ops true) e st st') hE hh hI (fun st' ρ a w hr' hf hk => ⟨st', ρ, hr', hk, hf, rfl⟩) (ops.toList.drop t) t st1 ρ a w (fun j => by simp) (fun o ho => hA o (List.mem_of_mem_drop ho)) (hroom.trans h2) hr h3
        simpa using this
      split at h
      · rename_i hord
        obtain ⟨st', h1, h2, h3⟩ := AXE hh ops.toList st hA (Fr.refl _ _) h
        exact AK3 hE hm hord h1 ⟨h3, h2, rfl⟩
      · split at h
        · rename_i hord
          obtain ⟨st', h1, h2, h3⟩ := D7 hh hA (D0 false E ops) (fA ops st) (Fr.refl _ _) h
          have hroom : Fr (oV (.region id ops true) .normal) st (fA ops st) := ⟨fun _ _ => rfl, qZ.same (n' := (fA ops st).n) (Nat.le_add_right _ _)⟩
          exact Y1 hE hm hord h1 ⟨h3, hroom.trans h2, rfl⟩
        · split at h
          · rename_i hord hlow
            split at h
            · rename_i hle
              obtain ⟨st', h1, h2, h3⟩ := D7 hh hA (D0 true E ops) (fA ops st) (Fr.refl _ _) h
              have hroom : Fr (oV (.region id ops true) .normal) st (fA ops st) := ⟨fun _ _ => rfl, qZ.same (n' := (fA ops st).n) (Nat.le_add_right _ _)⟩
              rw [Bool.and_eq_true, Bool.and_eq_true] at hord
              exact AS0 hE hm (Nat.le_of_ble_eq_true hle) hord.1.2 hord.1.1 h1 ⟨h3, hroom.trans h2, rfl⟩
            · exact h.elim
          split at h
          · refine A8S hE hm ?_
            have := Z9 hh hA ops.size (Array.replicate ops.size false) st (Fr.refl _ _) h
            exact RW (fun s hs => ⟨hs.2, hs.1, rfl⟩) this
          split at h
          · rename_i hmx
            have hroom : Fr (oV (.region id ops true) .normal) st (fA ops st) := ⟨fun _ _ => rfl, qZ.same (n' := (fA ops st).n) (Nat.le_add_right _ _)⟩
            have := RY (ms := wI ops.toList []) (fun j i hb => mD ops.toList [] (by simp) (fun j i hb => by simp at hb) j i hb) hh hA ops.size (Array.replicate ops.size false) (fA ops st)
              (fun m o _ hm' => by simp [Array.getElem?_replicate] at hm'; split at hm' <;> simp at hm') (Nat.le_add_right _ _) (Fr.refl _ _) h
            exact ASZ hE hm hmx (RX (fun s hs => ⟨hs.2, hroom.trans hs.1, rfl⟩) this)
          · exact h.elim
  | seq a b iha ihb =>
    intro cx hP Q st h
    have fab : ∀ {e : Exit} {st st1 st2 : St}, Fr (iG none a) st st1 → ends none a = true → FrE b e st1 st2 → FrE (.seq a b) e st st2 := by
      intro e st st1 st2 h1 h2 h3
      have hends : kR (.seq a b) e = true := by
        have := h3.ok
        cases e <;> simp only [kR, ends] at this ⊢ <;> simp [h2, this]
      have hi : ∀ i, oV (.seq a b) e i = false → iG none a i = false ∧ oV b e i = false := by
        intro i hi
        have h4 := h3.ok
        cases e <;> simp only [kR, oV, iG, Y0] at hi h4 ⊢ <;> simp only [h2, h4, Bool.true_and, Bool.or_eq_false_iff] at hi <;> first | exact hi.1 | exact ⟨AAI hi.1, hi.2⟩
      exact ⟨(h1.mono fun i h => (hi i h).1).trans (h3.fr.mono fun i h => (hi i h).2), hends⟩
    have fa : ∀ {e : Exit} {st st1 : St}, e ≠ .normal → kR a e = true → Fr (oV a e) st st1 → FrE (.seq a b) e st st1 := by
      intro e st st1 hne h2 h1
      refine ⟨h1.mono fun i hi => ?_, ?_⟩
      · cases e <;> simp only [kR, oV, iG, Y0] at hi h2 ⊢
        · exact absurd rfl hne
        · simp only [h2, Option.isSome_some, Bool.true_and, Bool.or_eq_false_iff] at hi; exact hi.2
        all_goals (simp only [Bool.or_eq_false_iff] at hi; exact hi.1)
      · cases e <;> simp only [kR, ends] at h2 ⊢
        · exact absurd rfl hne
        · simp [h2]
    simp only [sx] at h
    split at h
    · intro ρ act w hr
      refine wp_seq (wp_mono (iha cx hP _ st h ρ act w hr) ?_)
      rintro e a' w' ⟨st', ρ', hr', hq, hf⟩
      by_cases he : e = .normal
      · subst he
        refine wp_mono (ihb cx hP Q st' hq ρ' a' w' hr') ?_
        rintro e2 a2 w2 ⟨st2, ρ2, hr2, hq2, hf2⟩
        exact ⟨st2, ρ2, hr2, hq2, fab hf.fr hf.ok hf2⟩
      · have hp : sA cx nt (fun e st' => Q e st' ∧ FrE (.seq a b) e st st') e a' w' := ⟨st', ρ', hr', by cases e <;> first | exact absurd rfl he | exact hq, fa he hf.ok hf.fr⟩
        cases e <;> first | exact absurd rfl he | exact hp
    · rename_i its hj
      intro ρ act w hr
      have h : sx bR P E I H nt a (APO bR its st (fun y => sx bR P E I H nt b Q (YT its st (BF its (iG none a) st y))) Q) (RD its st) := h
      refine wp_seq ?_
      have h1 := iha (KJ cx its st ρ w) hP _ _ h ρ act w (AZ3 hr)
      refine wp_mono h1 ?_
      rintro e a' w' ⟨st', ρ', hr', hq, hf⟩
      obtain ⟨hf1, hk⟩ := hf.fr.BEY
      by_cases he : e = .normal
      · subst he
        obtain ⟨hok, y, hX, hy⟩ := JI hq
        obtain ⟨ρ2, hr2⟩ := AGR (A := iG none a) hr hr' (fun i hi => hf.fr.s i hi) hk hok hy
        have hr3 := AK2 hr hr2 A5R
        refine wp_mono (ihb cx hP Q _ hX ρ2 a' w' hr3) ?_
        rintro e2 a2 w2 ⟨st2, ρ2, hr2, hq2, hf2⟩
        exact ⟨st2, ρ2, hr2, hq2, fab A5L hf.ok hf2⟩
      · have := NR he hq
        have hp : sA cx nt (fun e st' => Q e st' ∧ FrE (.seq a b) e st st') e a' w' := ⟨_, ρ', AK2 hr hr' hk, this, fa he hf.ok hf1⟩
        cases e <;> first | exact absurd rfl he | exact hp
  | cond c t e iht ihe =>
    intro cx hP Q st h ρ a w hr
    simp only [sx] at h
    split at h
    · rename_i b hb
      have hev := hr.evS c
      rw [hb] at hev
      have hval : a.eval c = .bool b := by
        generalize a.eval c = q at hev ⊢
        cases hev with
        | p _ _ h => cases h; rfl
      refine wp_cond hval ?_
      rw [qP] at h
      have f1 : ∀ {x : Exit} {st st1 : St}, FrE t x st st1 → FrE (.cond c t e) x st st1 := by
        intro x st st1 hf
        have h2 := hf.ok
        refine ⟨hf.fr.mono fun i hi => ?_, ?_⟩
        · cases x <;> simp only [kR, oV, iG, Y0] at hi h2 ⊢ <;> simp only [h2, Bool.true_and, Bool.or_eq_false_iff] at hi <;> exact hi.1
        · cases x <;> simp only [kR, ends] at h2 ⊢ <;> simp [h2]
      have f2 : ∀ {x : Exit} {st st1 : St}, FrE e x st st1 → FrE (.cond c t e) x st st1 := by
        intro x st st1 hf
        have h2 := hf.ok
        refine ⟨hf.fr.mono fun i hi => ?_, ?_⟩
        · cases x <;> simp only [kR, oV, iG, Y0] at hi h2 ⊢ <;> simp only [h2, Bool.true_and, Bool.or_eq_false_iff] at hi <;> exact hi.2
        · cases x <;> simp only [kR, ends] at h2 ⊢ <;> simp [h2]
      cases b with
      | true =>
        rw [if_pos rfl]
        refine wp_mono (iht cx hP Q st (by have := h.1 rfl; rwa [AL9 hb] at this) ρ a w hr) ?_
        rintro e a' w' ⟨st', ρ', hr', hq, hf⟩
        exact ⟨st', ρ', hr', hq, f1 hf⟩
      | false =>
        rw [if_neg (by simp)]
        refine wp_mono (ihe cx hP Q st (by have := h.2 rfl; rwa [AL9 hb] at this) ρ a w hr) ?_
        rintro e a' w' ⟨st', ρ', hr', hq, hf⟩
        exact ⟨st', ρ', hr', hq, f2 hf⟩
    · exact h.elim
  | block id b ih =>
    intro cx hP Q st h ρ a w hr
    refine wp_block (wp_mono (ih cx hP _ st h ρ a w hr) ?_)
    rintro e a' w' ⟨st', ρ', hr', hq, hf⟩
    have h2 := hf.ok
    cases e with
    | exit id' =>
      simp only [G9] at hq
      simp only [Exit.inBlock]
      split at hq
      · rename_i e
        rw [if_pos e]
        subst e
        refine ⟨st', ρ', hr', hq, hf.fr.mono fun i hi => ?_, ?_⟩
        · simp only [kR, oV, iG] at hi h2 ⊢
          simp only [h2, Bool.true_and, Bool.or_eq_false_iff] at hi; exact hi.2
        · simp only [kR, ends] at h2 ⊢; simp [h2]
      · rename_i e
        rw [if_neg e]
        exact ⟨st', ρ', hr', hq, hf.fr.mono fun i hi => by simpa only [oV, iG] using hi, by simpa only [kR, ends] using h2⟩
    | normal =>
      refine ⟨st', ρ', hr', hq, hf.fr.mono fun i hi => ?_, ?_⟩
      · simp only [kR, oV, iG] at hi h2 ⊢
        simp only [h2, Bool.true_and, Bool.or_eq_false_iff] at hi; exact hi.1
      · simp only [kR, ends] at h2 ⊢; simp [h2]
    | _ => exact ⟨st', ρ', hr', hq, hf.fr.mono fun i hi => by simpa only [oV, Y0] using hi, rfl⟩
  | loop b ih =>
    intro cx hP Q st h ρ a w hr
    have fl : ∀ {e : Exit}, e ≠ .normal → kR b e = true → kR (.loop b) e = true ∧ ∀ i, oV (.loop b) e i = false → (ends none b = true → iG none b i = false) ∧ oV b e i = false := by
      intro e hne h2
      refine ⟨?_, fun i hi => ?_⟩
      · cases e <;> simp only [kR, ends] at h2 ⊢
        · exact absurd rfl hne
        · simp [h2]
      · cases e <;> simp only [oV, iG, Y0] at hi ⊢
        · exact absurd rfl hne
        · simp only [Bool.or_eq_false_iff] at hi
          exact ⟨fun h => by simpa [h] using hi.1, hi.2⟩
        all_goals exact ⟨fun _ => AAI hi, hi⟩
    simp only [sx] at h
    split at h
    · rename_i n hl
      have key : ∀ (n : Nat) (st1 : St) (ρ : Nat → Option Loc) (a : Act) (w : World), Rel cx nt ρ st1 a w → (st1 = st ∨ ends none b = true) → Fr (iG none b) st st1 → unr bR (sx bR P E I H nt b) Q n st1 → DV cx.P b (sA cx nt fun e st' => Q e st' ∧ FrE (.loop b) e st st') a w := by
        intro n
        induction n with
        | zero => intro st1 ρ a w hr _ hf h; exact h.elim
        | succ n ihn =>
          intro st1 ρ a w hr hor hf h
          refine DV.round (wp_mono (ih cx hP _ st1 h ρ a w hr) ?_)
          rintro e a2 w2 ⟨st2, ρ2, hr2, hq2, hf2⟩
          by_cases he : e = .normal
          · subst he
            exact ihn st2 ρ2 a2 w2 hr2 (.inr hf2.ok) (hf.trans hf2.fr) hq2
          · obtain ⟨g1, g2⟩ := fl he hf2.ok
            have hq2' : Q e st2 := by cases e <;> first | exact absurd rfl he | exact hq2
            have hfr : Fr (oV (.loop b) e) st st2 := by
              rcases hor with rfl | hor
              · exact hf2.fr.mono fun i hi => (g2 i hi).2
              · exact (hf.mono fun i hi => (g2 i hi).1 hor).trans (hf2.fr.mono fun i hi => (g2 i hi).2)
            have hp : sA cx nt (fun e st' => Q e st' ∧ FrE (.loop b) e st st') e a2 w2 := ⟨st2, ρ2, hr2, hq2', hfr, g1⟩
            cases e <;> first | exact absurd rfl he | exact hp
      exact (key n st ρ a w hr (.inl rfl) (Fr.refl _ _) h).wp
    · split at h
      · rename_i its hl
        split at h
        · rename_i hok
          obtain ⟨hok, hnn⟩ := (Bool.and_eq_true _ _).mp hok
          obtain ⟨y0, hloop, hy0⟩ := NU (O5 hok) h
          have hr1 := AZ3 (its := its) hr
          obtain ⟨ρ1, hr2⟩ := AGR (A := iG none b) hr hr1 (fun i _ => rfl) A5Y hok hy0
          have key := hloop (fun y => ∀ ρ' a' w', Rel (KJ cx its st ρ w) nt ρ' (BF its (iG none b) st y) a' w' → DV cx.P b (sA cx nt fun e st' => Q e st' ∧ FrE (.loop b) e st st') a' w') (by
            intro y hb ρ' a' w' hr'
            refine DV.round (wp_mono (ih (KJ cx its st ρ w) hP _ _ hb ρ' a' w' hr') ?_)
            rintro e a2 w2 ⟨st2, ρ2, hr2, hq2, hf2⟩
            by_cases he : e = .normal
            · subst he
              obtain ⟨hf1, hk⟩ := hf2.fr.A8F (D := iG none b) fun i hi => ⟨hi, hi⟩
              obtain ⟨hok2, y2, hX, hy2⟩ := JI hq2
              obtain ⟨ρ3, hr3⟩ := AGR (A := iG none b) hr hr2 (fun i hi => hf1.s i hi) hk hok2 hy2
              exact hX ρ3 a2 w2 hr3
            · obtain ⟨g1, g2⟩ := fl he hf2.ok
              by_cases hn : ends none b = true
              · obtain ⟨hf1, hk⟩ := hf2.fr.A8F (D := oV (.loop b) e) fun i hi => ⟨(g2 i hi).1 hn, (g2 i hi).2⟩
                have := NR he hq2
                have hp : sA cx nt (fun e st' => Q e st' ∧ FrE (.loop b) e st st') e a2 w2 := ⟨_, ρ2, AK2 hr hr2 hk, this, hf1, g1⟩
                cases e <;> first | exact absurd rfl he | exact hp
              · exact absurd hnn hn)
          exact (key ρ1 a w hr2).wp
        · exact h.elim
      · exact h.elim
  | exit id => exact fun cx hP Q st h ρ a w hr => wp_exit ⟨st, ρ, hr, h, Fr.refl _ _, by simp [kR, ends]⟩
  | ret => exact fun cx hP Q st h ρ a w hr => wp_ret ⟨st, ρ, hr, h, Fr.refl _ _, rfl⟩
  | rangeFunc _ _ _ _ => exact fun cx hP Q st h => h.elim
  | scope b ih =>
    intro cx hP Q st h ρ a w hr
    refine wp_scope_straight (wp_mono (ih cx hP _ st h ρ a w hr) ?_)
    rintro e a' w' ⟨st', ρ', hr', hq, hf⟩
    have h2 := hf.ok
    cases e with
    | goto l => exact hq.elim
    | normal => exact ⟨st', ρ', hr', hq, hf.fr.mono fun i hi => by simpa only [oV, iG] using hi, by simpa only [kR, ends] using h2⟩
    | exit id => exact ⟨st', ρ', hr', hq, hf.fr.mono fun i hi => by simpa only [oV, iG] using hi, by simpa only [kR, ends] using h2⟩
    | _ => exact ⟨st', ρ', hr', hq, hf.fr.mono fun i hi => by simpa only [oV, Y0] using hi, rfl⟩
  | goto _ => exact fun cx hP Q st h => h.elim
  | refuse _ => exact fun cx hP Q st h => h.elim
end
section
variable (C : fP) (P : Program) (E : Env) (Hs : FuncId → Hint)
def BEZ (rs : Array ResultVar) (K : KN) (e : Exit) (st : St) : Prop := match kV e, A10 P rs st with
  | true, some (d, σ', n') => K d σ' n'
  | _, _ => C.bad 601
def KG : Nat → Inl
  | 0 => fun _ _ _ _ _ => C.bad 602
  | k + 1 => fun fid args σ n K => match P.funcs[fid]? with
    | some fn => match fn.body, decide (args.length ≤ fn.ntmps) with
      | some c, true => sx C P E (KG k) (Hs fid) fn.ntmps c (BEZ C P fn.results K) (GK args σ n)
      | _, _ => C.bad 603
    | none => C.bad 604
def BFC (rs : Array ResultVar) (R : T → Prop) (e : Exit) (st : St) : Prop := match kV e, BCT P rs st with
  | true, some r => R r
  | _, _ => C.bad 701
def BFA (rs : Array ResultVar) (R : List (List T) → Prop) (e : Exit) (st : St) : Prop := match kV e, BCU P rs st with
  | true, some r => R r
  | _, _ => C.bad 702
end
section
variable {P : Program} {E : Env} {Hs : FuncId → Hint}
theorem iY {e : Exit} (h : kV e = true) : e = .normal ∨ e = .ret := by cases e <;> simp [kV] at h <;> simp
theorem j9 (hn : cE P = true) {f : FuncId} {fn : Func} (hf : P.funcs[f]? = some fn) : (fn.name == "runtime.NumGoroutine") = false := by
  have := Array.all_eq_true_iff_forall_mem.1 hn fn (Array.mem_of_getElem? hf)
  simp_all
theorem lU (hE : aT P E) (hm : P.follows .mixedOrders = true) (hn : cE P = true) (hh : eH E) : ∀ k, AGP P (KG bR P E Hs k) := by
  intro k
  induction k with
  | zero => intro cx ρ σ n w fid args vs K hP hG hI ha h; exact h.elim
  | succ k ih =>
    intro cx ρ σ n w fid args vs K hP hG hI ha h
    simp only [KG] at h
    split at h
    · rename_i fn hf
      split at h
      · rename_i c hb hlen
        have hlen : args.length ≤ fn.ntmps := of_decide_eq_true hlen
        refine ⟨⟨fn, hf, j9 hn hf, by simp [hb]⟩, ?_⟩
        subst hP
        let cx' : Cx := ⟨cx.P, cx.own, cx.w0, ρ, σ, w, cx.arg⟩
        have hI' : Inv cx' ρ σ n w := ⟨hI.boxes, hI.inj, hI.new, hI.q7, hI.below, hI.jY, hI.low⟩
        refine calls_of_wp hf hb ?_
        have hr : Rel cx' fn.ntmps ρ (GK args σ n) { tmps := vs ++ Array.replicate (fn.ntmps - vs.size) undef, defers := [] } w := wB hI' (bO.refl _ _ _ _) hG ha hlen
        refine wp_mono (oS hE hm hh ih c cx' rfl _ (GK args σ n) h _ _ w hr) ?_
        rintro e a' w' ⟨st', ρ', hr', hq, hf'⟩
        unfold BEZ at hq
        split at hq
        · rename_i d σ' n' he hres
          obtain ⟨v, h1, h2, h3⟩ := AEH hr' hres
          obtain ⟨rfl, rfl⟩ := h3
          have hI2 : Inv cx ρ' st'.σ st'.n w' := ⟨hr'.inv.boxes, hr'.inv.inj, hr'.inv.new, hr'.inv.q7, hr'.inv.below, hr'.inv.jY, hr'.inv.low⟩
          have hk2 : bO cx ρ ρ' σ st'.σ w w' := ⟨hr'.keeps.cell, hr'.keeps.size, hr'.keeps.own, hr'.keeps.loc, hr'.keeps.shape, hr'.keeps.ro⟩
          rcases iY he with rfl | rfl
          · exact ⟨hr'.defers, v, h1, v, ρ', d, st'.σ, st'.n, rfl, hI2, hk2, h2, hf'.fr.b, hq⟩
          · exact ⟨hr'.defers, v, h1, v, ρ', d, st'.σ, st'.n, rfl, hI2, hk2, h2, hf'.fr.b, hq⟩
        · exact hq.elim
      · exact h.elim
    · exact h.elim
def dY (C : fP) (P : Program) (E : Env) (Hs : FuncId → Hint) (k : Nat) (f : FuncId) (args : List T) (R : T → Prop) : Prop := match P.funcs[f]? with
  | some fn => match fn.body, decide (args.length ≤ fn.ntmps) with
    | some c, true => sx C P E (KG C P E Hs k) (Hs f) fn.ntmps c (BFC C P fn.results R) (st0 args)
    | _, _ => C.bad 703
  | none => C.bad 704
def QO (C : fP) (P : Program) (E : Env) (Hs : FuncId → Hint) (k : Nat) (f : FuncId) (args : List T) (R : List (List T) → Prop) : Prop := match P.funcs[f]? with
  | some fn => match fn.body, decide (args.length ≤ fn.ntmps) with
    | some c, true => sx C P E (KG C P E Hs k) (Hs f) fn.ntmps c (BFA C P fn.results R) (st0 args)
    | _, _ => C.bad 703
  | none => C.bad 704
def BFB (C : fP) (P : Program) (c : Nat) (rs : Array ResultVar) (R : T → Prop) (e : Exit) (st : St) : Prop := match kV e, BCV P c rs st with
  | true, some cs => R (.agg cs)
  | _, _ => C.bad 705
def YP (C : fP) (P : Program) (E : Env) (Hs : FuncId → Hint) (k : Nat) (c : Nat) (f : FuncId) (args : List T) (R : T → Prop) : Prop := match P.funcs[f]? with
  | some fn => match fn.body, decide (args.length ≤ fn.ntmps) with
    | some cd, true => sx C P E (KG C P E Hs k) (Hs f) fn.ntmps cd (BFB C P c fn.results R) (st0 args)
    | _, _ => C.bad 703
  | none => C.bad 704
def AQ8 : D → Bool
  | .p t => t.flat
  | _ => false
def YS : D → T
  | .p t => t
  | _ => .v undef
def A58 (C : fP) (σ : Nat → Option bB) (d : D) (K : T → Prop) : Prop := match d with
  | .p t => match fK t with
    | some (_, []) => K (.sl false [])
    | _ => C.yJ t.flat (K t)
  | .own k => match σ k with
    | some (.arr false _ rows) => C.yJ (rows.all fun r => r.all T.flat) (K (.sl false rows))
    | _ => C.bad 801
  | .map k => match σ k with
    | some (.map false es) => C.yJ (es.all fun e => AQ8 e.2) (K (.mp (es.map fun e => (e.1, YS e.2))))
    | _ => C.bad 802
  | _ => C.bad 803
def A0G (C : fP) (σ : Nat → Option bB) : List D → (List T → Prop) → Prop
  | [], K => K []
  | d :: l, K => A58 C σ d fun t => A0G C σ l fun ts => K (t :: ts)
def BC2 (C : fP) (P : Program) (rs : Array ResultVar) (R : T → Prop) (e : Exit) (st : St) : Prop := match kV e, vO P st rs.toList with
  | true, some [d] => A58 C st.σ d R
  | true, some ds => A0G C st.σ ds fun ts => R (.bZ ts)
  | _, _ => C.bad 804
def wD (C : fP) (P : Program) (E : Env) (Hs : FuncId → Hint) (k : Nat) (f : FuncId) (args : List T) (R : T → Prop) : Prop := match P.funcs[f]? with
  | some fn => match fn.body, decide (args.length ≤ fn.ntmps) with
    | some c, true => sx C P E (KG C P E Hs k) (Hs f) fn.ntmps c (BC2 C P fn.results R) (st0 args)
    | _, _ => C.bad 703
  | none => C.bad 704
theorem AMJ {cx : Cx} {nt : Nat} {ρ : Nat → Option Loc} {st : St} {a : Act} {w : World} (hr : Rel cx nt ρ st a w) (hn : cx.arg = []) {d : D} {v : Value} (hd : Rd w (bL cx ρ st.σ) ρ d v) {K : T → Prop} (h : A58 bR st.σ d K) : ∃ t, K t ∧ cN w (fun b => b < cx.w0.heap.size) t v := by
  unfold A58 at h
  split at h
  · cases hd with
    | p _ _ hd =>
    split at h
    · rename_i f hrow
      refine ⟨_, h, ?_⟩
      have := lD hd hrow
      cases this with
      | cQ _ a cap hf hn => exact .cQ false a cap (by simp) hn
      | sl _ _ sz bJ off cap fc k1 k2 k3 k4 k5 k6 k7 k8 k9 => exact .cQ false _ cap (by simp) (by simp)
    · obtain ⟨hf, h⟩ := h
      exact ⟨_, h, hd.H5 hf⟩
  · rename_i k
    split at h
    · rename_i z rows hσ
      obtain ⟨hf, h⟩ := h
      refine ⟨_, h, ?_⟩
      have this : cN w (fun _ => False) (.sl false rows) v := xH (own0 := fun _ => False) (τ := st.σ) hr.inv (fun b hb => hb.elim) (fun _ _ h => h) (fun _ _ _ _ _ _ h => h) 1 hd (by simp [iA, hσ])
      have flatc : ∀ i j (hi : i < rows.length) (hj : j < rows[i].length), rows[i][j].flat = true := fun i j hi hj => List.all_eq_true.1 (List.all_eq_true.1 hf _ (List.getElem_mem hi)) _ (List.getElem_mem hj)
      cases hd with
      | own _ l hl hL h1 h2 =>
        have hm := hr.inv.TE hn k _ l hσ hl hL rfl
        generalize hvv : (Value.slice (some ⟨l.bJ, 0, none⟩) l.L l.C) = v at this
        cases this with
        | cQ _ a cap hf hn => exact .cQ false a cap (by simp) hn
        | sl _ _ sz bJ off cap f k1 k2 k3 k4 k5 k6 k7 k8 k9 =>
          have e : l.bJ = bJ := by
            simp_all
          exact .sl false rows sz bJ off cap f k1 k2 k3 (by show ¬ bJ < _; omega) k5 k6 k7 k8 (fun i j hi hj => (k9 i j hi hj).H5 (flatc i j hi hj))
      | c0 _ l a hl hL =>
        generalize hvv : (Value.slice a 0 0) = v at this
        cases this with
        | cQ _ a cap hf hn => exact .cQ false a cap (by simp) hn
        | sl _ _ sz bJ off cap f k1 k2 k3 k4 k5 k6 k7 k8 k9 =>
          have e : rows = [] := by
            injection hvv with e1 e2 e3
            exact List.eq_nil_of_length_eq_zero e2.symm
          subst e
          exact .cQ false _ cap (by simp) (by simp)
    · exact h.elim
  · rename_i k
    split at h
    · rename_i es hσ
      obtain ⟨hf, h⟩ := h
      refine ⟨_, h, ?_⟩
      obtain ⟨l', ents, hl', hL, ho, hE⟩ := hr.inv.OR hσ
      cases hd with
      | map _ l hl =>
      have hll : l' = l := by rw [hl] at hl'; exact (Option.some.inj hl').symm
      subst hll
      have hm := hr.inv.TE hn k _ l' hσ hl hL rfl
      have hlen : (es.map fun e => (e.1, YS e.2)).length = es.length := by simp
      have hex : ∀ i (hi : i < es.length), ∃ e, ents[i]? = some e ∧ e.key = es[i].1 ∧ e.born = i ∧ cN w (fun b => b < cx.w0.heap.size) (YS es[i].2) e.val := by
        intro i hi
        obtain ⟨e, a1, a2, a3, a4⟩ := hE.2 i hi
        have hp := List.all_eq_true.1 hf es[i] (List.getElem_mem hi)
        refine ⟨e, by rw [← Array.getElem?_toList]; exact a1, a2, by omega, ?_⟩
        generalize es[i].2 = d at hp a4
        cases d with
        | p t =>
          cases a4 with
          | p _ _ a4 => exact a4.H5 hp
        | _ => cases hp
      refine .mp _ l'.bJ ents (fun i => ents.getD i ⟨undef, undef, 0⟩) (by show ¬ l'.bJ < _; omega) ((hr.inv.new k l' hl).2 hL).1 (by rw [hlen]; exact ho) (by rw [hlen]; simpa using hE.1) (fun i hi => ?_) (fun i hi => ?_)
      · obtain ⟨e, a1, a2, a3, _⟩ := hex i (by omega)
        simp_all
      · obtain ⟨e, a1, _, _, a4⟩ := hex i (by omega)
        simp_all
    · exact h.elim
  · exact h.elim
theorem ADP {cx : Cx} {nt : Nat} {ρ : Nat → Option Loc} {st : St} {a : Act} {w : World} (hr : Rel cx nt ρ st a w) (hn : cx.arg = []) : ∀ {ds : List D} {vs : List Value} {K : List T → Prop}, cZ (Rd w (bL cx ρ st.σ) ρ) ds vs.toArray → A0G bR st.σ ds K → ∃ ts, K ts ∧ cZ (cN w (fun b => b < cx.w0.heap.size)) ts vs.toArray
  | [], vs, K, ha, h => by
    have : vs = [] := by simpa using ha.1
    subst this
    exact ⟨[], h, cZ.nil⟩
  | d :: ds, vs, K, ha, h => by
    cases vs with
    | nil => have := ha.1; simp at this
    | cons v vs =>
      have h0 := ha.2 0 (by simp)
      have ht : cZ (Rd w (bL cx ρ st.σ) ρ) ds vs.toArray := ⟨by have := ha.1; simp at this ⊢; exact this, fun i hi => by
        have := ha.2 (i + 1) (by simp; omega)
        simpa using this⟩
      obtain ⟨t, k1, k2⟩ := AMJ hr hn (by simpa using h0) h
      obtain ⟨ts, k3, k4⟩ := ADP hr hn ht k1
      refine ⟨t :: ts, k3, ?_⟩
      have := (cZ.one (R := cN w (fun b => b < cx.w0.heap.size)) k2).append k4
      simp_all
theorem A2W {cx : Cx} {nt : Nat} {ρ : Nat → Option Loc} {st : St} {a : Act} {w : World} (hr : Rel cx nt ρ st a w) (hn : cx.arg = []) {fn : Func} {R : T → Prop} {e : Exit} (h : BC2 bR cx.P fn.results R e st) :
    kV e = true ∧ ∃ v t, (results fn a.tmps).run cx.P w = .ok v w ∧ R t ∧ cN w (fun b => b < cx.w0.heap.size) t v := by
  have run : ∀ {ds : List D}, vO cx.P st fn.results.toList = some ds → ∃ vs : Array Value, (fn.results.mapM (vP a.tmps)).run cx.P w = .ok vs w ∧ cZ (Rd w (bL cx ρ st.σ) ρ) ds vs := by
    intro ds hds
    obtain ⟨vs, h1, h2⟩ := nB hr hds
    refine ⟨vs.toArray, ?_, h2⟩
    rw [Array.mapM_eq_mapM_toList, Sem.run_map, h1]
    rfl
  unfold BC2 at h
  split at h
  · rename_i d he hd
    refine ⟨he, ?_⟩
    obtain ⟨vs, h1, h2⟩ := run hd
    have hs : vs.size = 1 := by simpa using h2.1
    have h3 := h2.2 0 (by simp)
    have h4 : vs.getD 0 undef = vs[0] := by simp [Array.getD, hs]
    rw [h4] at h3
    obtain ⟨t, k1, k2⟩ := AMJ hr hn h3 h
    refine ⟨vs[0], t, ?_, k1, k2⟩
    rw [gJ, Sem.run_bind, h1]
    simp [hs]
  · rename_i ds hne he hds
    refine ⟨he, ?_⟩
    obtain ⟨vs, h1, h2⟩ := run hds
    have hs : ¬ vs.size = 1 := by
      intro hs
      rw [h2.1] at hs
      obtain ⟨d, rfl⟩ := List.length_eq_one_iff.1 hs
      simp_all
    obtain ⟨ts, k1, k2⟩ := ADP hr hn (vs := vs.toList) (by simpa using h2) h
    refine ⟨.tuple vs, .bZ ts, ?_, k1, .bZ ts vs (by simpa using k2.1) (by simpa using k2.2)⟩
    rw [gJ, Sem.run_bind, h1]
    simp [hs]
  · exact h.elim
theorem ADO (hE : aT P E) (hm : P.follows .mixedOrders = true) (hn : cE P = true) (hh : eH E) (k : Nat) {f : FuncId} {g : List T → Option T} (hex : ∃ fn c, P.funcs[f]? = some fn ∧ fn.body = some c)
    (h : ∀ args r, g args = some r → (∀ t ∈ args, Bd t) → wD bR P E Hs k f args (fun x => x = r)) : kP P f g := by
  obtain ⟨fn, c, hf, hb⟩ := hex
  refine ⟨⟨fn, hf, j9 hn hf, by simp [hb]⟩, fun w own args vs r hG hown ha hg => ?_⟩
  have hbd : ∀ t ∈ args, Bd t := by
    intro t ht
    obtain ⟨i, hi, rfl⟩ := List.mem_iff_getElem.1 ht
    exact (ha.2 i hi).bd
  have hs := h args r hg hbd
  simp only [wD, hf, hb] at hs
  split at hs
  · rename_i c' he hlen
    cases he
    have hlen : args.length ≤ fn.ntmps := of_decide_eq_true hlen
    let cx : Cx := KC P own w
    refine calls_of_wp hf hb ?_
    refine wp_mono (oS hE hm hh (lU hE hm hn hh k) c cx rfl _ (st0 args) hs _ _ w (LC (P := P) (nt := fn.ntmps) hG hown ha hlen)) ?_
    rintro e a' w' ⟨st', ρ', hr', hq, _⟩
    obtain ⟨he, v, t, h1, rfl, h2⟩ := A2W hr' rfl hq
    rcases iY he with rfl | rfl
    · exact ⟨hr'.defers, v, h1, v, rfl, h2, hr'.inv.below.toB⟩
    · exact ⟨hr'.defers, v, h1, v, rfl, h2, hr'.inv.below.toB⟩
  · exact hs.elim
theorem H7 (hE : aT P E) (hm : P.follows .mixedOrders = true) (hn : cE P = true) (hh : eH E) (k : Nat) {f : FuncId} {g : List T → Option T} (hex : ∃ fn c, P.funcs[f]? = some fn ∧ fn.body = some c)
    (h : ∀ args r, g args = some r → (∀ t ∈ args, Bd t) → dY bR P E Hs k f args (fun x => x = r)) : aN P f g := by
  obtain ⟨fn, c, hf, hb⟩ := hex
  refine ⟨⟨fn, hf, j9 hn hf, by simp [hb]⟩, fun w own args vs r hG hown ha hg => ?_⟩
  have hbd : ∀ t ∈ args, Bd t := by
    intro t ht
    obtain ⟨i, hi, rfl⟩ := List.mem_iff_getElem.1 ht
    exact (ha.2 i hi).bd
  have hs := h args r hg hbd
  simp only [dY, hf, hb] at hs
  split at hs
  · rename_i c' he hlen
    cases he
    have hlen : args.length ≤ fn.ntmps := of_decide_eq_true hlen
    let cx : Cx := KC P own w
    refine calls_of_wp hf hb ?_
    refine wp_mono (oS hE hm hh (lU hE hm hn hh k) c cx rfl _ (st0 args) hs _ _ w (LC (P := P) (nt := fn.ntmps) hG hown ha hlen)) ?_
    rintro e a' w' ⟨st', ρ', hr', hq, _⟩
    unfold BFC at hq
    split at hq
    · rename_i r' he hres
      subst hq
      obtain ⟨v, h1, h2⟩ := A1Y hr' hres
      rcases iY he with rfl | rfl
      · exact ⟨hr'.defers, v, h1, v, rfl, h2, hr'.inv.below.toB⟩
      · exact ⟨hr'.defers, v, h1, v, rfl, h2, hr'.inv.below.toB⟩
    · exact hq.elim
  · exact hs.elim
theorem N9 (hE : aT P E) (hm : P.follows .mixedOrders = true) (hn : cE P = true) (hh : eH E) (k : Nat) {f : FuncId} {g : List T → Option (List (List T))} (hex : ∃ fn c, P.funcs[f]? = some fn ∧ fn.body = some c)
    (h : ∀ args r, g args = some r → (∀ t ∈ args, Bd t) → QO bR P E Hs k f args (fun x => x = r)) : e6 P f g := by
  obtain ⟨fn, c, hf, hb⟩ := hex
  refine ⟨⟨fn, hf, j9 hn hf, by simp [hb]⟩, fun w own args vs r hG hown ha hg => ?_⟩
  have hbd : ∀ t ∈ args, Bd t := by
    intro t ht
    obtain ⟨i, hi, rfl⟩ := List.mem_iff_getElem.1 ht
    exact (ha.2 i hi).bd
  have hs := h args r hg hbd
  simp only [QO, hf, hb] at hs
  split at hs
  · rename_i c' he hlen
    cases he
    have hlen : args.length ≤ fn.ntmps := of_decide_eq_true hlen
    let cx : Cx := KC P own w
    refine calls_of_wp hf hb ?_
    refine wp_mono (oS hE hm hh (lU hE hm hn hh k) c cx rfl _ (st0 args) hs _ _ w (LC (P := P) (nt := fn.ntmps) hG hown ha hlen)) ?_
    rintro e a' w' ⟨st', ρ', hr', hq, _⟩
    unfold BFA at hq
    split at hq
    · rename_i r' he hres
      subst hq
      obtain ⟨v, h1, h2, h3⟩ := A1Z hr' rfl hres
      rcases iY he with rfl | rfl
      · exact ⟨hr'.defers, v, h1, v, rfl, hr'.inv.below.toB, h2, h3⟩
      · exact ⟨hr'.defers, v, h1, v, rfl, hr'.inv.below.toB, h2, h3⟩
    · exact hq.elim
  · exact hs.elim
theorem ASH (hE : aT P E) (hm : P.follows .mixedOrders = true) (hn : cE P = true) (hh : eH E) (k : Nat) {f : FuncId} {ci : Nat} {g : List T → Option T} (hex : ∃ fn c, P.funcs[f]? = some fn ∧ fn.body = some c)
    (h : ∀ args r, g args = some r → (∀ t ∈ args, Bd t) → YP bR P E Hs k ci f args (fun x => x = r)) : MY P f ci g := by
  obtain ⟨fn, c, hf, hb⟩ := hex
  refine ⟨⟨fn, hf, j9 hn hf, by simp [hb]⟩, fun w own args vs r hG hown ha hg => ?_⟩
  have hbd : ∀ t ∈ args, Bd t := by
    intro t ht
    obtain ⟨i, hi, rfl⟩ := List.mem_iff_getElem.1 ht
    exact (ha.2 i hi).bd
  have hs := h args (.agg r) hg hbd
  simp only [YP, hf, hb] at hs
  split at hs
  · rename_i c' he hlen
    cases he
    have hlen : args.length ≤ fn.ntmps := of_decide_eq_true hlen
    let cx : Cx := KC P own w
    refine calls_of_wp hf hb ?_
    refine wp_mono (oS hE hm hh (lU hE hm hn hh k) c cx rfl _ (st0 args) hs _ _ w (LC (P := P) (nt := fn.ntmps) hG hown ha hlen)) ?_
    rintro e a' w' ⟨st', ρ', hr', hq, _⟩
    unfold BFB at hq
    split at hq
    · rename_i r' he hres
      cases hq
      obtain ⟨vc, h1, h2, h3⟩ := A11 hr' rfl hres
      rcases iY he with rfl | rfl
      · exact ⟨hr'.defers, _, h1, vc, rfl, hr'.inv.below.toB, h2, h3⟩
      · exact ⟨hr'.defers, _, h1, vc, rfl, hr'.inv.below.toB, h2, h3⟩
    · exact hq.elim
  · exact hs.elim
def AML : Fn → Bool
  | .heap _ => false
  | _ => true
theorem aL : ∀ {l : List (FuncId × Fn)}, l.all (fun x => AML x.2) = true → eH (Env.of l)
  | [], _, f, g, h => by simp [Env.of] at h
  | (k, x) :: l, hl, f, g, h => by
    simp only [List.all_cons, Bool.and_eq_true] at hl
    simp only [Env.of] at h
    split at h
    · cases h; simp [AML] at hl
    · exact aL hl.2 f g h
end
end Go.Pv
