/-
  The symbolic executor, part g: code, and functions.
-/
import Derived.Test.YtipdohmdckdoeaaGreatDoorVdkf
set_option linter.defProp false
set_option linter.unusedSimpArgs false
namespace Go.Pv
open Go Go.RowKit
inductive LH where
  | none
  | inv (its : List It)
  | alt (a b : List It)
  | PZ (n : Nat)
  | alts (l : List (List It))
structure Hint where
  loop : Nat -> LH
  join : Nat -> Nat -> Option (List It)
  ent : Nat -> Ent
def bA : Hint := ⟨λ_ => .none, λ_ _ => none, λ_ => none⟩
def vC : Code -> Option Nat
  | .region id _ _ => some id
  | .seq a b => match vC a with
    | some i => some i
    | none => vC b
  | .cond _ a b => match vC a with
    | some i => some i
    | none => vC b
  | .block _ b => vC b
  | .scope b => vC b
  | .loop b => vC b
  | _ => none
def JF : Code -> Option Nat
  | .region id _ _ => some id
  | .seq a b => match JF b with
    | some i => some i
    | none => JF a
  | .cond _ a b => match JF b with
    | some i => some i
    | none => JF a
  | .block _ b => JF b
  | .scope b => JF b
  | .loop b => JF b
  | _ => none
def ZM (i : Nat) : List Oper -> Bool
  | [] => false
  | o :: l => (match o.dst with
    | some t => t == i
    | none => false) || ZM i l
def P9 : Code -> Nat -> Bool
  | .region _ ops _, i => ZM i ops.toList
  | .seq a b, i => P9 a i || P9 b i
  | .cond _ a b, i => P9 a i || P9 b i
  | .block _ b, i => P9 b i
  | .scope b, i => P9 b i
  | .loop b, i => P9 b i
  | _, _ => false
def ends (t : Option Nat) : Code -> Bool
  | .skip => t.isNone
  | .label _ => t.isNone
  | .region _ _ _ => t.isNone
  | .seq a b => (ends none a && ends t b) || (t.isSome && ends t a)
  | .cond _ a b => ends t a || ends t b
  | .block id b => match t with
    | none => ends none b || ends (some id) b
    | some j => ends (some j) b
  | .loop b => t.isSome && ends t b
  | .scope b => ends t b
  | .exit id => match t with
    | none => false
    | some j => j == id
  | _ => false
def iI (t : Option Nat) : Code -> Nat -> Bool
  | .region _ ops _, i => ZM i ops.toList
  | .seq a b, i => (ends none a && ends t b && (iI none a i || iI t b i)) || (t.isSome && ends t a && iI t a i)
  | .cond _ a b, i => (ends t a && iI t a i) || (ends t b && iI t b i)
  | .block id b, i => match t with
    | none => (ends none b && iI none b i) || (ends (some id) b && iI (some id) b i)
    | some j => iI (some j) b i
  | .loop b, i => (ends none b && iI none b i) || iI t b i
  | .scope b, i => iI t b i
  | _, _ => false
def o6 (c : Code) : Exit -> Nat -> Bool
  | .normal => iI none c
  | .exit id => iI (some id) c
  | _ => P9 c
def kT (c : Code) : Exit -> Bool
  | .normal => ends none c
  | .exit id => ends (some id) c
  | _ => true
def MZ : ∀ {l : List Oper} {o : Oper} {t : Tmp}, o ∈ l -> o.dst = some t -> ZM t l = true
  | [], _, _, h, _ => by cases h
  | a :: l, o, t, h, ht => by
    simp only [ZM, Bool.or_eq_true];rcases List.mem_cons.1 h with rfl | h
    · exact .inl (by simp [ht])
    · exact .inr (MZ h ht)
def BDF (H : Hint) (a : Code) : Option (List It) := match vC a, JF a with
  | some i, some j => H.join i j
  | _, _ => none
def fits (st : St) : List It -> Bool
  | [] => true
  | .arr k _ _ :: l => (match st.σ k with
    | some (.arr _ _ _) => true
    | _ => false) && fits st l
  | .own t _ _ :: l => (match st.s t with
    | .own _ => true
    | .p t => (match fA t with
      | some (true, []) => true
      | _ => false)
    | _ => false) && fits st l
  | .box k _ :: l => (match st.σ k with
    | some (.rows _ _) => true
    | _ => false) && fits st l
  | .map k _ _ _ :: l => (match st.σ k with
    | some (.map _ _) => true
    | _ => false) && fits st l
  | .cB k :: l => (match st.σ k with
    | some (.cB _ _ _ _) => true
    | _ => false) && fits st l
  | _ :: l => fits st l
def BE0 (h : LH) (st : St) : Option (List It) := match h with
  | .inv its => some its
  | .alt a b => match fits st a with
    | true => some a
    | false => some b
  | .alts l => l.find? λits => fits st its
  | _ => none
def BDK (H : Hint) (b : Code) : LH := match vC b with
  | some i => H.loop i
  | none => .none
section
variable (C : iY) (P : Program) (E : Env) (I : Inl) (H : Hint) (nt : Nat)
def A93 (ops : List Oper) (st : St) : Nat -> Operand -> Option Nat
  | 0, _ => none
  | f + 1, x => match ev (cD true st.s) x with
    | .ptr k _ _ => some k
    | _ => match x with
      | .tmp t => match ops.find? (λo => o.dst == some t) with
        | some o => match o.op with
          | .fieldAddr _ a _ => A93 ops st f a
          | _ => none
        | none => none
      | _ => none
def BJI (ops : Array Oper) (st : St) : Option Nat := ops.toList.foldl (λm o => match o.op with
  | .store _ a _ => match A93 ops.toList st 6 a, m with
    | some k, some m => some (min k m)
    | _, _ => none
  | _ => m) (some st.n)
def AZ0 (E : Env) (ops : Array Oper) : Option Nat := ((List.range ops.size).filter λi => match ops[i]? with
  | some o => match o.op with
    | .call c => match c.callee with
      | .value (.tmp _) => true
      | .value (.func f) => (E f).isNone
      | _ => false
    | _ => false
  | none => false).getLast?
def A97 (E : Env) (ops : Array Oper) : Option Nat := match AZ0 E ops with
  | some t => match VX E ops t with
    | true => some t
    | false => none
  | none => none
def BIM (id : Nat) (ops : Array Oper) (draw : Bool) (st : St) (K : St -> Prop) : Prop :=
  match draw with
  | false => evK C P E nt I (H.ent id) false ops ops.toList st K
  | true => match A97 E ops with
   | some t => wQ false C P E nt ops st.n (List.range t) (e8 ops st) λst1 => evK C P E nt I none false ops (ops.toList.drop t) st1 K
   | none => match sD E ops with
    | true => evK C P E nt I none true ops ops.toList st K
    | false => match sZ false E ops with
      | true => wQ false C P E nt ops st.n (DU false E ops) (e8 ops st) K
      | false => match sZ true E ops && A7R ops, BJI ops st with
       | true, some base => match Nat.ble base st.n with
        | true => wQ true C P E nt ops base (DU true E ops) (e8 ops st) K
        | false => C.bad 510
       | _, _ => match Nat.ble ops.size 7 with
        | true => anyS C P E nt ops K ops.size (Array.replicate ops.size false) st
        | false => match AP9 false E ops with
          | true => MD false C P E nt ops st.n (wL ops.toList []) K ops.size (Array.replicate ops.size false) (e8 ops st)
          | false => C.bad 501
def AN7 (its : List It) (st₀ : St) (X : GA.den its -> Prop) (Q : Exit -> St -> Prop) : Exit -> St -> Prop
  | .normal, st => match JJ its st₀ st with
    | true => AXL C st₀ st its X
    | false => C.bad 502
  | e, st => Q e (XG its st₀ st)
def unr (F : (Exit -> St -> Prop) -> St -> Prop) (Q : Exit -> St -> Prop) : Nat -> St -> Prop
  | 0, _ => C.bad 503
  | n + 1, st => F (λe st' => match e with
    | .normal => unr F Q n st'
    | e => Q e st') st
def A7D (c : Operand) (b : Bool) (st : St) : St := match c with
  | .tmp t => match st.s t with
    | .p (.v (.bool _)) => ⟨b6 st.s t (.p (.v (.bool b))), st.σ, st.n⟩
    | _ => st
  | _ => st
def sx : Code -> (Exit -> St -> Prop) -> St -> Prop
  | .skip, Q, st => Q .normal st
  | .label _, Q, st => Q .normal st
  | .region id ops draw, Q, st => BIM C P E I H nt id ops draw st (Q .normal)
  | .seq a b, Q, st => match BDF H a with
    | none => sx a (AC6 (sx b Q) Q) st
    | some its => C.join (GA.den its) (λX => sx a (AN7 C its st X Q) (QL its st)) λy => sx b Q (XG its st (B3 its (iI none a) st y))
  | .cond c t e, Q, st => match ev (cD true st.s) c with
    | .p (.v (.bool b)) => aC b (sx t Q (A7D c true st)) (sx e Q (A7D c false st))
    | _ => C.bad 504
  | .block id b, Q, st => sx b (GD id Q) st
  | .loop b, Q, st => match BDK H b with
    | .PZ n => unr C (sx b) Q n st
    | h => match BE0 h st with
      | some its => match JJ its st (QL its st) && ends none b with
        | true => AXL C st (QL its st) its λy => C.loop (GA.den its) (λX y => sx b (AN7 C its st X Q) (B3 its (iI none b) st y)) y
        | false => C.bad 505
      | none => C.bad 506
  | .exit id, Q, st => Q (.exit id) st
  | .ret, Q, st => Q .ret st
  | .scope b, Q, st => sx b (VT Q) st
  | _, _, _ => C.bad 507
end
variable {st:St}
def AKM {c : Operand} {b : Bool} (h : ev (cD true st.s) c = .p (.v (.bool b))) : A7D c b st = st := by
  unfold A7D;split
  · rename_i t
    split
    · rename_i b' hb
      have : b' = b := by
        simp only [ev, cD, hb, strip] at h;cases h; rfl
      subst this;have : b6 st.s t (.p (.v (.bool b'))) = st.s := by
        funext i
        by_cases e : i = t
        · subst e; rw [eK, hb]
        · rw [bM _ _ e]
      rw [this]
    · rfl
  · rfl
def DQ (P : Program) (b : Code) (Q : Exit -> Act -> World -> Prop) (a : Act) (w : World) : Prop :=
  ∀ (fb : Frame) (k : List Item) (cs : List Frame), ∃ e a' w', Q e a' w' /\ Arrives P (lone (fb.at a (.code b :: .inLoop b :: k)) cs w) fb k cs e a' w'
variable {P:Program}{Q:Exit -> Act -> World -> Prop}
def DQ.wp {b : Code} {a : Act} {w : World} (h : DQ P b Q a w) : (Code.loop b).wp P Q a w := by
  intro fb k cs;obtain ⟨e, a', w', hq, harr⟩ := h fb k cs;exact ⟨e, a', w', hq, .of_steps (.one step_loop) harr⟩
def DQ.round {b : Code} {a : Act} {w : World} (h : b.wp P (λe a w => match e with
    | .normal => DQ P b Q a w
    | e => Q e a w) a w) : DQ P b Q a w := by
  intro fb k cs;obtain ⟨e, a₁, w₁, hq, harr⟩ := h fb (.inLoop b :: k) cs;cases e with
  | normal =>
    obtain ⟨e₂, a₂, w₂, hq₂, harr₂⟩ := hq fb k cs;exact ⟨e₂, a₂, w₂, hq₂, .of_steps (Steps.trans harr (.one step_inLoop)) harr₂⟩
  | exit id => exact ⟨_, a₁, w₁, hq, .pass (x := .inLoop b) rfl (λ_ _ => .inl (by simp)) harr⟩
  | goto l => exact ⟨_, a₁, w₁, hq, .pass (x := .inLoop b) rfl (λ_ _ => .inl (by simp)) harr⟩
  | ret => exact ⟨_, a₁, w₁, hq, .pass (x := .inLoop b) rfl (λ_ _ => .inl (by simp)) harr⟩
  | panic ch => exact ⟨_, a₁, w₁, hq, .pass (x := .inLoop b) rfl (λ_ _ => .inl (by simp)) harr⟩
  | outgrown => exact ⟨_, a₁, w₁, hq, .pass (x := .inLoop b) rfl (λ_ _ => .inl (by simp)) harr⟩
section
variable {P : Program} {E : Env} {I : Inl} {H : Hint} {nt : Nat}
variable {its:List It}{A:Nat -> Bool}{st₀:St}{y:GA.den its}
def Fr.A90 {B D:Nat -> Bool} (h : Fr B (B3 its A st₀ y) st) (hD : ∀ i, D i = false -> A i = false /\ B i = false) : Fr D st₀ (XG its st₀ st) /\ ∀ k x, kept its st₀ k = true -> st₀.σ k = some x -> st.σ k = some (lock x) := by
  have hk : ∀ k x, kept its st₀ k = true -> st₀.σ k = some x -> st.σ k = some (lock x) := by
    intro k x hke hx;obtain ⟨hlt, x0, h0, h1, _⟩ := mJ hke;rw [hx] at h0; cases h0;exact h.b.2 k (lock x) (by show k < st₀.n + wT its; omega) (by simp only [B3, ai hlt, hke, hx, Option.map_some]) h1
  refine ⟨⟨λi hi => ?_, ?_, λk x hlt hx hw => ?_⟩, hk⟩
  · obtain ⟨h1, h2⟩ := hD i hi
    have := h.s i h2;simp only [B3, h1] at this;exact this
  · have := h.b.1
    simp only [B3] at this;show st₀.n <= st.n;omega
  · have hke := EP (its := its) hlt hx hw
    simp only [XG, hke, hx]
def Fr.BIH (h : Fr A (QL its st₀) st) : Fr A st₀ (XG its st₀ st) /\ ∀ k x, kept its st₀ k = true -> st₀.σ k = some x -> st.σ k = some (lock x) := by
  have hk : ∀ k x, kept its st₀ k = true -> st₀.σ k = some x -> st.σ k = some (lock x) := by
    intro k x hke hx;obtain ⟨hlt, x0, h0, h1, _⟩ := mJ hke;rw [hx] at h0; cases h0;exact h.b.2 k (lock x) hlt (by simp only [QL, hke, hx, Option.map_some]) h1
  refine ⟨⟨λi hi => h.s i hi, h.b.1, λk x hlt hx hw => ?_⟩, hk⟩;have hke := EP (its := its) hlt hx hw;simp only [XG, hke, hx]
def A63 : Fr A st₀ (XG its st₀ (B3 its A st₀ y)) := by
  refine ⟨λi hi => ?_, ?_, λk x hlt hx hw => ?_⟩
  · simp only [XG, B3, hi]
  · show st₀.n <= st₀.n + wT its
    omega
  · have hke := EP (its := its) hlt hx hw
    simp only [XG, hke, hx]
def A66 : ∀ k x, kept its st₀ k = true -> st₀.σ k = some x -> (B3 its A st₀ y).σ k = some (lock x) := by
  intro k x hke hx;obtain ⟨hlt, _⟩ := mJ hke;simp only [B3, ai hlt, hke, hx, Option.map_some]
def A7E : ∀ k x, kept its st₀ k = true -> st₀.σ k = some x -> (QL its st₀).σ k = some (lock x) := by
  intro k x hke hx;simp only [QL, hke, hx, Option.map_some]
variable {cx:Cx}{ρ:Nat -> Option Loc}
def AFD {ρ₀:Nat -> Option Loc} {a₀ a : Act} {w₀ w : World} (hR0 : Rel cx nt ρ₀ st₀ a₀ w₀) (hR : Rel (JY cx its st₀ ρ₀ w₀) nt ρ st a w) (hs : ∀ i, A i = false -> st.s i = st₀.s i)
    (hk : ∀ k x, kept its st₀ k = true -> st₀.σ k = some x -> st.σ k = some (lock x)) (hok : JJ its st₀ st = true) (hy : AJM st₀.n st₀ st its y) : ∃ ρ', Rel (JY cx its st₀ ρ₀ w₀) nt ρ' (B3 its A st₀ y) a w := by
  have hdom : ∀ k l, ρ₀ k = some l -> k < st₀.n := λk l hl => (hR0.inv.new k l hl).1;refine A5H hR (λi _ => (hR0.nJ i).blw hdom) (λk x hx => ?_) hdom (λk x hx hw => ?_) hs hk hok hy
  · obtain ⟨l, _, hb⟩ := hR0.inv.boxes k x hx
    exact hb.blw hdom
  · change (QL its st₀).σ k = some x at hx
    cases hke : kept its st₀ k with
    | true => rfl
    | false =>
      simp only [QL, hke] at hx;obtain ⟨l, hl, _⟩ := hR0.inv.boxes k x hx;rw [EP (hdom k l hl) hx hw] at hke;cases hke
def OJ (h : JJ its st₀ st = true) : JZ st₀.n its = true := by
  unfold JJ at h;rw [ac] at h;exact h.2
variable {X:GA.den its -> Prop}
def IZ {Q : Exit -> St -> Prop} (h : AN7 b8 its st₀ X Q .normal st) : JJ its st₀ st = true /\ ∃ y, X y /\ AJM st₀.n st₀ st its y := by
  simp only [AN7] at h;split at h
  · rename_i hok
    exact ⟨hok, M8 (OJ hok) h⟩
  · exact h.elim
def M5 {Q : Exit -> St -> Prop} {e : Exit} (he : e ≠ .normal) (h : AN7 b8 its st₀ X Q e st) : Q e (XG its st₀ st) := by
  cases e <;> first | exact h | exact absurd rfl he
def Y6 {t : Option Nat} : ∀ {c : Code} {i : Nat}, P9 c i = false -> iI t c i = false := by
  intro c
  induction c generalizing t with
  | seq a b iha ihb =>
    intro i h;simp only [P9, Bool.or_eq_false_iff] at h;simp only [iI, iha (t := none) h.1, iha (t := t) h.1, ihb (t := t) h.2, Bool.or_false, Bool.and_false]
  | cond c a b iha ihb =>
    intro i h;simp only [P9, Bool.or_eq_false_iff] at h;simp only [iI, iha (t := t) h.1, ihb (t := t) h.2, Bool.or_false, Bool.and_false]
  | block id b ih =>
    intro i h;simp only [P9] at h;cases t with
    | none => simp only [iI, ih (t := none) h, ih (t := some id) h, Bool.and_false, Bool.or_false]
    | some j => simp only [iI, ih (t := some j) h]
  | loop b ih =>
    intro i h;simp only [P9] at h;simp only [iI, ih (t := none) h, ih (t := t) h, Bool.and_false, Bool.or_false]
  | region id ops draw => intro i h; exact h
  | scope b ih =>
    intro i h;simp only [P9] at h;simp only [iI, ih (t := t) h]
  | _ => intro i h; rfl
structure FrE (c : Code) (e : Exit) (st st' : St) : Prop where
  fr : Fr (o6 c e) st st'
  ok : kT c e = true
def zQ (hE : aU P E) (hm : P.follows .mixedOrders = true) (hh : fS E) (hI : AFB P I) : ∀ (c : Code) (cx : Cx), cx.P = P -> ∀ (Q : Exit -> St -> Prop) (st : St), sx b8 P E I H nt c Q st -> AW cx nt c (λe st' => Q e st' /\ FrE c e st st') st := by
  intro c
  induction c with
  | skip => exact λcx hP Q st h ρ a w hr => wp_skip ⟨st, ρ, hr, h, Fr.refl _ _, rfl⟩
  | label l => exact λcx hP Q st h ρ a w hr => wp_label ⟨st, ρ, hr, h, Fr.refl _ _, rfl⟩
  | region id ops draw =>
    intro cx hP Q st h;subst hP;have hA : ∀ o ∈ ops.toList, ∀ t, o.dst = some t -> o6 (.region id ops draw) .normal t = true := λo ho t ht => MZ ho ht;simp only [sx, BIM] at h;split at h
    · intro ρ a w hr
      refine wp_region ?_;have := xG (Q := sQ cx nt λe st' => Q e st' /\ FrE (.region id ops false) e st st') hE hh hI (λst' ρ a w hr' hf hk => ⟨st', ρ, hr', hk, hf, rfl⟩) ops.toList 0 st ρ a w (by simp) hA (Fr.refl _ _) hr h;rw [List.range_eq_range'];simpa using this
    · split at h
      · rename_i t htail
        have hT : VX E ops t = true := by
          unfold A97 at htail;split at htail
          · split at htail
            · cases htail; assumption
            · cases htail
          · cases htail
        obtain ⟨st1, h1, h2, h3⟩ := D2 hh hA (List.range t) (e8 ops st) (Fr.refl _ _) h;have hroom : Fr (o6 (.region id ops true) .normal) st (e8 ops st) := ⟨λ_ _ => rfl, uX.same (n' := (e8 ops st).n) (Nat.le_add_right _ _)⟩
        refine AR3 hE hm hT h1 λρ a w hr => ?_;have := xG (Q := sQ cx nt λe st' => Q e st' /\ FrE (.region id ops true) e st st') hE hh hI (λst' ρ a w hr' hf hk => ⟨st', ρ, hr', hk, hf, rfl⟩) (ops.toList.drop t) t st1 ρ a w (λj => by simp) (λo ho => hA o (List.mem_of_mem_drop ho)) (hroom.trans h2) hr h3;simpa using this
      split at h
      · rename_i hord
        obtain ⟨st', h1, h2, h3⟩ := AXJ hh ops.toList st hA (Fr.refl _ _) h;exact AJI hE hm hord h1 ⟨h3, h2, rfl⟩
      · split at h
        · rename_i hord
          obtain ⟨st', h1, h2, h3⟩ := D2 hh hA (DU false E ops) (e8 ops st) (Fr.refl _ _) h;have hroom : Fr (o6 (.region id ops true) .normal) st (e8 ops st) := ⟨λ_ _ => rfl, uX.same (n' := (e8 ops st).n) (Nat.le_add_right _ _)⟩
          exact XN hE hm hord h1 ⟨h3, hroom.trans h2, rfl⟩
        · split at h
          · rename_i hord hlow
            split at h
            · rename_i hle
              obtain ⟨st', h1, h2, h3⟩ := D2 hh hA (DU true E ops) (e8 ops st) (Fr.refl _ _) h;have hroom : Fr (o6 (.region id ops true) .normal) st (e8 ops st) := ⟨λ_ _ => rfl, uX.same (n' := (e8 ops st).n) (Nat.le_add_right _ _)⟩
              rw [ac] at hord;exact AR2 hE hm (Nat.le_of_ble_eq_true hle) hord.2 hord.1 h1 ⟨h3, hroom.trans h2, rfl⟩
            · exact h.elim
          split at h
          · refine A99 hE hm ?_
            have := YZ hh hA ops.size (Array.replicate ops.size false) st (Fr.refl _ _) h;exact QU (λs hs => ⟨hs.2, hs.1, rfl⟩) this
          split at h
          · rename_i hmx
            have hroom : Fr (o6 (.region id ops true) .normal) st (e8 ops st) := ⟨λ_ _ => rfl, uX.same (n' := (e8 ops st).n) (Nat.le_add_right _ _)⟩
            have := QW (ms := wL ops.toList []) (λj i hb => mK ops.toList [] (by simp) (λj i hb => by simp at hb) j i hb) hh hA ops.size (Array.replicate ops.size false) (e8 ops st)
              (λm o _ hm' => by simp [Array.getElem?_replicate] at hm'; split at hm' <;> simp at hm') (Nat.le_add_right _ _) (Fr.refl _ _) h
            exact AR1 hE hm hmx (QV (λs hs => ⟨hs.2, hroom.trans hs.1, rfl⟩) this)
          · exact h.elim
  | seq a b iha ihb =>
    intro cx hP Q st h;have fab : ∀ {e : Exit} {st st1 st2 : St}, Fr (iI none a) st st1 -> ends none a = true -> FrE b e st1 st2 -> FrE (.seq a b) e st st2 := by
      intro e st st1 st2 h1 h2 h3;have hends : kT (.seq a b) e = true := by
        have := h3.ok;cases e <;> simp only [kT, ends] at this ⊢ <;> simp [h2, this]
      have hi : ∀ i, o6 (.seq a b) e i = false -> iI none a i = false /\ o6 b e i = false := by
        intro i hi;have h4 := h3.ok;cases e <;> simp only [kT, o6, iI, P9] at hi h4 ⊢ <;> simp only [h2, h4, Bool.true_and, Bool.or_eq_false_iff] at hi <;> first | exact hi.1 | exact ⟨Y6 hi.1, hi.2⟩
      exact ⟨(h1.mono λi h => (hi i h).1).trans (h3.fr.mono λi h => (hi i h).2), hends⟩
    have fa : ∀ {e : Exit} {st st1 : St}, e ≠ .normal -> kT a e = true -> Fr (o6 a e) st st1 -> FrE (.seq a b) e st st1 := by
      intro e st st1 hne h2 h1;refine ⟨h1.mono λi hi => ?_, ?_⟩
      · cases e <;> simp only [kT, o6, iI, P9] at hi h2 ⊢
        · exact absurd rfl hne
        · simp only [h2, Option.isSome_some, Bool.true_and, Bool.or_eq_false_iff] at hi; exact hi.2
        all_goals (simp only [Bool.or_eq_false_iff] at hi; exact hi.1)
      · cases e <;> simp only [kT, ends] at h2 ⊢
        · exact absurd rfl hne
        · simp [h2]
    simp only [sx] at h;split at h
    · intro ρ act w hr
      refine wp_seq (wp_mono (iha cx hP _ st h ρ act w hr) ?_);rintro e a' w' ⟨st', ρ', hr', hq, hf⟩;by_cases he : e = .normal
      · subst he
        refine wp_mono (ihb cx hP Q st' hq ρ' a' w' hr') ?_;rintro e2 a2 w2 ⟨st2, ρ2, hr2, hq2, hf2⟩;exact ⟨st2, ρ2, hr2, hq2, fab hf.fr hf.ok hf2⟩
      · have hp : sQ cx nt (λe st' => Q e st' /\ FrE (.seq a b) e st st') e a' w' := ⟨st', ρ', hr', by cases e <;> first | exact absurd rfl he | exact hq, fa he hf.ok hf.fr⟩
        cases e <;> first | exact absurd rfl he | exact hp
    · rename_i its hj
      intro ρ act w hr;have h : sx b8 P E I H nt a (AN7 b8 its st (λy => sx b8 P E I H nt b Q (XG its st (B3 its (iI none a) st y))) Q) (QL its st) := h;refine wp_seq ?_;have h1 := iha (JY cx its st ρ w) hP _ _ h ρ act w (AZ5 hr);refine wp_mono h1 ?_;rintro e a' w' ⟨st', ρ', hr', hq, hf⟩;obtain ⟨hf1, hk⟩ := hf.fr.BIH;by_cases he : e = .normal
      · subst he
        obtain ⟨hok, y, hX, hy⟩ := IZ hq;obtain ⟨ρ2, hr2⟩ := AFD (A := iI none a) hr hr' (λi hi => hf.fr.s i hi) hk hok hy;have hr3 := AJH hr hr2 A66;refine wp_mono (ihb cx hP Q _ hX ρ2 a' w' hr3) ?_;rintro e2 a2 w2 ⟨st2, ρ2, hr2, hq2, hf2⟩;exact ⟨st2, ρ2, hr2, hq2, fab A63 hf.ok hf2⟩
      · have := M5 he hq
        have hp : sQ cx nt (λe st' => Q e st' /\ FrE (.seq a b) e st st') e a' w' := ⟨_, ρ', AJH hr hr' hk, this, fa he hf.ok hf1⟩
        cases e <;> first | exact absurd rfl he | exact hp
  | cond c t e iht ihe =>
    intro cx hP Q st h ρ a w hr;simp only [sx] at h;split at h
    · rename_i b hb
      have hev := hr.evS c;rw [hb] at hev;have hval : a.eval c = .bool b := by
        generalize a.eval c = q at hev ⊢;cases hev with
        | p _ _ h => cases h; rfl
      refine wp_cond hval ?_;rw [rA] at h;have f1 : ∀ {x : Exit} {st st1 : St}, FrE t x st st1 -> FrE (.cond c t e) x st st1 := by
        intro x st st1 hf;have h2 := hf.ok;refine ⟨hf.fr.mono λi hi => ?_, ?_⟩
        · cases x <;> simp only [kT, o6, iI, P9] at hi h2 ⊢ <;> simp only [h2, Bool.true_and, Bool.or_eq_false_iff] at hi <;> exact hi.1
        · cases x <;> simp only [kT, ends] at h2 ⊢ <;> simp [h2]
      have f2 : ∀ {x : Exit} {st st1 : St}, FrE e x st st1 -> FrE (.cond c t e) x st st1 := by
        intro x st st1 hf;have h2 := hf.ok;refine ⟨hf.fr.mono λi hi => ?_, ?_⟩
        · cases x <;> simp only [kT, o6, iI, P9] at hi h2 ⊢ <;> simp only [h2, Bool.true_and, Bool.or_eq_false_iff] at hi <;> exact hi.2
        · cases x <;> simp only [kT, ends] at h2 ⊢ <;> simp [h2]
      cases b with
      | true =>
        rw [if_pos rfl];refine wp_mono (iht cx hP Q st (by have := h.1 rfl; rwa [AKM hb] at this) ρ a w hr) ?_;rintro e a' w' ⟨st', ρ', hr', hq, hf⟩;exact ⟨st', ρ', hr', hq, f1 hf⟩
      | false =>
        rw [if_neg (by simp)];refine wp_mono (ihe cx hP Q st (by have := h.2 rfl; rwa [AKM hb] at this) ρ a w hr) ?_;rintro e a' w' ⟨st', ρ', hr', hq, hf⟩;exact ⟨st', ρ', hr', hq, f2 hf⟩
    · exact h.elim
  | block id b ih =>
    intro cx hP Q st h ρ a w hr;refine wp_block (wp_mono (ih cx hP _ st h ρ a w hr) ?_);rintro e a' w' ⟨st', ρ', hr', hq, hf⟩;have h2 := hf.ok;cases e with
    | exit id' =>
      simp only [GD] at hq;simp only [Exit.inBlock];split at hq
      · rename_i e
        rw [if_pos e];subst e;refine ⟨st', ρ', hr', hq, hf.fr.mono λi hi => ?_, ?_⟩
        · simp only [kT, o6, iI] at hi h2 ⊢
          simp only [h2, Bool.true_and, Bool.or_eq_false_iff] at hi; exact hi.2
        · simp only [kT, ends] at h2 ⊢; simp [h2]
      · rename_i e
        rw [if_neg e];exact ⟨st', ρ', hr', hq, hf.fr.mono λi hi => by simpa only [o6, iI] using hi, by simpa only [kT, ends] using h2⟩
    | normal =>
      refine ⟨st', ρ', hr', hq, hf.fr.mono λi hi => ?_, ?_⟩
      · simp only [kT, o6, iI] at hi h2 ⊢
        simp only [h2, Bool.true_and, Bool.or_eq_false_iff] at hi; exact hi.1
      · simp only [kT, ends] at h2 ⊢; simp [h2]
    | _ => exact ⟨st', ρ', hr', hq, hf.fr.mono λi hi => by simpa only [o6, P9] using hi, rfl⟩
  | loop b ih =>
    intro cx hP Q st h ρ a w hr;have fl : ∀ {e : Exit}, e ≠ .normal -> kT b e = true -> kT (.loop b) e = true /\ ∀ i, o6 (.loop b) e i = false -> (ends none b = true -> iI none b i = false) /\ o6 b e i = false := by
      intro e hne h2;refine ⟨?_, λi hi => ?_⟩
      · cases e <;> simp only [kT, ends] at h2 ⊢
        · exact absurd rfl hne
        · simp [h2]
      · cases e <;> simp only [o6, iI, P9] at hi ⊢
        · exact absurd rfl hne
        · simp only [Bool.or_eq_false_iff] at hi
          exact ⟨λh => by simpa [h] using hi.1, hi.2⟩
        all_goals exact ⟨λ_ => Y6 hi, hi⟩
    simp only [sx] at h;split at h
    · rename_i n hl
      have key : ∀ (n : Nat) (st1 : St) (ρ : Nat -> Option Loc) (a : Act) (w : World), Rel cx nt ρ st1 a w -> (st1 = st \/ ends none b = true) -> Fr (iI none b) st st1 -> unr b8 (sx b8 P E I H nt b) Q n st1 -> DQ cx.P b (sQ cx nt λe st' => Q e st' /\ FrE (.loop b) e st st') a w := by
        intro n
        induction n with
        | zero => intro st1 ρ a w hr _ hf h; exact h.elim
        | succ n ihn =>
          intro st1 ρ a w hr hor hf h;refine DQ.round (wp_mono (ih cx hP _ st1 h ρ a w hr) ?_);rintro e a2 w2 ⟨st2, ρ2, hr2, hq2, hf2⟩;by_cases he : e = .normal
          · subst he
            exact ihn st2 ρ2 a2 w2 hr2 (.inr hf2.ok) (hf.trans hf2.fr) hq2
          · obtain ⟨g1, g2⟩ := fl he hf2.ok
            have hq2' : Q e st2 := by cases e <;> first | exact absurd rfl he | exact hq2
            have hfr : Fr (o6 (.loop b) e) st st2 := by
              rcases hor with rfl | hor
              · exact hf2.fr.mono λi hi => (g2 i hi).2
              · exact (hf.mono λi hi => (g2 i hi).1 hor).trans (hf2.fr.mono λi hi => (g2 i hi).2)
            have hp : sQ cx nt (λe st' => Q e st' /\ FrE (.loop b) e st st') e a2 w2 := ⟨st2, ρ2, hr2, hq2', hfr, g1⟩
            cases e <;> first | exact absurd rfl he | exact hp
      exact (key n st ρ a w hr (.inl rfl) (Fr.refl _ _) h).wp
    · split at h
      · rename_i its hl
        split at h
        · rename_i hok
          obtain ⟨hok, hnn⟩ := (ac _ _).mp hok;obtain ⟨y0, hloop, hy0⟩ := M8 (OJ hok) h;have hr1 := AZ5 (its := its) hr;obtain ⟨ρ1, hr2⟩ := AFD (A := iI none b) hr hr1 (λi _ => rfl) A7E hok hy0;have key := hloop (λy => ∀ ρ' a' w', Rel (JY cx its st ρ w) nt ρ' (B3 its (iI none b) st y) a' w' -> DQ cx.P b (sQ cx nt λe st' => Q e st' /\ FrE (.loop b) e st st') a' w') (by
            intro y hb ρ' a' w' hr';refine DQ.round (wp_mono (ih (JY cx its st ρ w) hP _ _ hb ρ' a' w' hr') ?_);rintro e a2 w2 ⟨st2, ρ2, hr2, hq2, hf2⟩;by_cases he : e = .normal
            · subst he
              obtain ⟨hf1, hk⟩ := hf2.fr.A90 (D := iI none b) λi hi => ⟨hi, hi⟩
              obtain ⟨hok2, y2, hX, hy2⟩ := IZ hq2;obtain ⟨ρ3, hr3⟩ := AFD (A := iI none b) hr hr2 (λi hi => hf1.s i hi) hk hok2 hy2;exact hX ρ3 a2 w2 hr3
            · obtain ⟨g1, g2⟩ := fl he hf2.ok
              by_cases hn : ends none b = true
              · obtain ⟨hf1, hk⟩ := hf2.fr.A90 (D := o6 (.loop b) e) λi hi => ⟨(g2 i hi).1 hn, (g2 i hi).2⟩
                have := M5 he hq2;have hp : sQ cx nt (λe st' => Q e st' /\ FrE (.loop b) e st st') e a2 w2 := ⟨_, ρ2, AJH hr hr2 hk, this, hf1, g1⟩
                cases e <;> first | exact absurd rfl he | exact hp
              · exact absurd hnn hn)
          exact (key ρ1 a w hr2).wp
        · exact h.elim
      · exact h.elim
  | exit id => exact λcx hP Q st h ρ a w hr => wp_exit ⟨st, ρ, hr, h, Fr.refl _ _, by simp [kT, ends]⟩
  | ret => exact λcx hP Q st h ρ a w hr => wp_ret ⟨st, ρ, hr, h, Fr.refl _ _, rfl⟩
  | rangeFunc _ _ _ _ => exact λcx hP Q st h => h.elim
  | scope b ih =>
    intro cx hP Q st h ρ a w hr;refine wp_scope_straight (wp_mono (ih cx hP _ st h ρ a w hr) ?_);rintro e a' w' ⟨st', ρ', hr', hq, hf⟩;have h2 := hf.ok;cases e with
    | goto l => exact hq.elim
    | normal => exact ⟨st', ρ', hr', hq, hf.fr.mono λi hi => by simpa only [o6, iI] using hi, by simpa only [kT, ends] using h2⟩
    | exit id => exact ⟨st', ρ', hr', hq, hf.fr.mono λi hi => by simpa only [o6, iI] using hi, by simpa only [kT, ends] using h2⟩
    | _ => exact ⟨st', ρ', hr', hq, hf.fr.mono λi hi => by simpa only [o6, P9] using hi, rfl⟩
  | goto _ => exact λcx hP Q st h => h.elim
  | refuse _ => exact λcx hP Q st h => h.elim
end
section
variable (C : iY) (P : Program) (E : Env) (Hs : FuncId -> Hint)
def BII (rs : Array ResultVar) (K : KN) (e : Exit) (st : St) : Prop := match lA e, A12 P rs st with
  | true, some (d, σ', n') => K d σ' n'
  | _, _ => C.bad 601
def AG7 : Nat -> Inl
  | 0 => λ_ _ _ _ _ => C.bad 602
  | k + 1 => λfid args σ n K => match P.funcs[fid]? with
    | some fn => match fn.body, decide (args.length <= fn.ntmps) with
      | some c, true => sx C P E (AG7 k) (Hs fid) fn.ntmps c (BII C P fn.results K) (QP args σ n)
      | _, _ => C.bad 603
    | none => C.bad 604
def BIX (rs : Array ResultVar) (R : T -> Prop) (e : Exit) (st : St) : Prop := match lA e, BE6 P rs st with
  | true, some r => R r
  | _, _ => C.bad 701
def BIV (rs : Array ResultVar) (R : List (List T) -> Prop) (e : Exit) (st : St) : Prop := match lA e, BE7 P rs st with
  | true, some r => R r
  | _, _ => C.bad 702
end
section
variable {P : Program} {E : Env} {Hs : FuncId -> Hint}
def mM {e : Exit} (h : lA e = true) : e = .normal \/ e = .ret := by cases e <;> simp [lA] at h <;> simp
def nZ (hn : cI P = true) {f : FuncId} {fn : Func} (hf : P.funcs[f]? = some fn) : (fn.name == "runtime.NumGoroutine") = false := by
  have := Array.all_eq_true_iff_forall_mem.1 hn fn (Array.mem_of_getElem? hf);simpa using this
def vN (hE : aU P E) (hm : P.follows .mixedOrders = true) (hn : cI P = true) (hh : fS E) : ∀ k, AFB P (AG7 b8 P E Hs k) := by
  intro k
  induction k with
  | zero => intro cx ρ σ n w fid args vs K hP hG hI ha h; exact h.elim
  | succ k ih =>
    intro cx ρ σ n w fid args vs K hP hG hI ha h;simp only [AG7] at h;split at h
    · rename_i fn hf
      split at h
      · rename_i c hb hlen
        have hlen : args.length <= fn.ntmps := of_decide_eq_true hlen;refine ⟨⟨fn, hf, nZ hn hf, by simp [hb]⟩, ?_⟩;subst hP
        let cx' : Cx := ⟨cx.P, cx.own, cx.w0, ρ, σ, w, cx.arg⟩
        have hI' : Inv cx' ρ σ n w := ⟨hI.boxes, hI.inj, hI.new, hI.oR, hI.below, hI.j9, hI.low⟩
        refine calls_of_wp hf hb ?_;have hr : Rel cx' fn.ntmps ρ (QP args σ n) { tmps := vs ++ Array.replicate (fn.ntmps - vs.size) undef, defers := [] } w := FU hI' (bR.refl _ _ _ _) hG ha hlen;refine wp_mono (zQ hE hm hh ih c cx' rfl _ (QP args σ n) h _ _ w hr) ?_;rintro e a' w' ⟨st', ρ', hr', hq, hf'⟩;unfold BII at hq;split at hq
        · rename_i d σ' n' he hres
          obtain ⟨v, h1, h2, h3⟩ := ACX hr' hres;simp only [Prod.mk.injEq] at h3;obtain ⟨rfl, rfl⟩ := h3;have hI2 : Inv cx ρ' st'.σ st'.n w' := ⟨hr'.inv.boxes, hr'.inv.inj, hr'.inv.new, hr'.inv.oR, hr'.inv.below, hr'.inv.j9, hr'.inv.low⟩
          have hk2 : bR cx ρ ρ' σ st'.σ w w' := ⟨hr'.keeps.cell, hr'.keeps.size, hr'.keeps.own, hr'.keeps.loc, hr'.keeps.shape, hr'.keeps.ro⟩
          rcases mM he with rfl | rfl
          · exact ⟨hr'.defers, v, h1, v, ρ', d, st'.σ, st'.n, rfl, hI2, hk2, h2, hf'.fr.b, hq⟩
          · exact ⟨hr'.defers, v, h1, v, ρ', d, st'.σ, st'.n, rfl, hI2, hk2, h2, hf'.fr.b, hq⟩
        · exact hq.elim
      · exact h.elim
    · exact h.elim
def eJ (C : iY) (P : Program) (E : Env) (Hs : FuncId -> Hint) (k : Nat) (f : FuncId) (args : List T) (R : T -> Prop) : Prop := match P.funcs[f]? with
  | some fn => match fn.body, decide (args.length <= fn.ntmps) with
    | some c, true => sx C P E (AG7 C P E Hs k) (Hs f) fn.ntmps c (BIX C P fn.results R) (st0 args)
    | _, _ => C.bad 703
  | none => C.bad 704
def PW (C : iY) (P : Program) (E : Env) (Hs : FuncId -> Hint) (k : Nat) (f : FuncId) (args : List T) (R : List (List T) -> Prop) : Prop := match P.funcs[f]? with
  | some fn => match fn.body, decide (args.length <= fn.ntmps) with
    | some c, true => sx C P E (AG7 C P E Hs k) (Hs f) fn.ntmps c (BIV C P fn.results R) (st0 args)
    | _, _ => C.bad 703
  | none => C.bad 704
def BIW (C : iY) (P : Program) (c : Nat) (rs : Array ResultVar) (R : T -> Prop) (e : Exit) (st : St) : Prop := match lA e, BE8 P c rs st with
  | true, some cs => R (.agg cs)
  | _, _ => C.bad 705
def XD (C : iY) (P : Program) (E : Env) (Hs : FuncId -> Hint) (k : Nat) (c : Nat) (f : FuncId) (args : List T) (R : T -> Prop) : Prop := match P.funcs[f]? with
  | some fn => match fn.body, decide (args.length <= fn.ntmps) with
    | some cd, true => sx C P E (AG7 C P E Hs k) (Hs f) fn.ntmps cd (BIW C P c fn.results R) (st0 args)
    | _, _ => C.bad 703
  | none => C.bad 704
def APV : D -> Bool
  | .p t => t.flat
  | _ => false
def XF : D -> T
  | .p t => t
  | _ => .v undef
def A7Q (C : iY) (σ : Nat -> Option bG) (d : D) (K : T -> Prop) : Prop := match d with
  | .p t => match fA t with
    | some (_, []) => K (.sl false [])
    | _ => C.AO t.flat (K t)
  | .own k => match σ k with
    | some (.arr false _ rows) => C.AO (rows.all λr => r.all T.flat) (K (.sl false rows))
    | _ => C.bad 801
  | .map k => match σ k with
    | some (.map false es) => C.AO (es.all λe => APV e.2) (K (.mp (es.map λe => (e.1, XF e.2))))
    | _ => C.bad 802
  | _ => C.bad 803
def A0K (C : iY) (σ : Nat -> Option bG) : List D -> (List T -> Prop) -> Prop
  | [], K => K []
  | d :: l, K => A7Q C σ d λt => A0K C σ l λts => K (t :: ts)
def BFG (C : iY) (P : Program) (rs : Array ResultVar) (R : T -> Prop) (e : Exit) (st : St) : Prop := match lA e, vV P st rs.toList with
  | true, some [d] => A7Q C st.σ d R
  | true, some ds => A0K C st.σ ds λts => R (.b9 ts)
  | _, _ => C.bad 804
def wE (C : iY) (P : Program) (E : Env) (Hs : FuncId -> Hint) (k : Nat) (f : FuncId) (args : List T) (R : T -> Prop) : Prop := match P.funcs[f]? with
  | some fn => match fn.body, decide (args.length <= fn.ntmps) with
    | some c, true => sx C P E (AG7 C P E Hs k) (Hs f) fn.ntmps c (BFG C P fn.results R) (st0 args)
    | _, _ => C.bad 703
  | none => C.bad 704
variable {cx:Cx}{nt:Nat}{ρ:Nat -> Option Loc}
def AKY {a : Act} {w : World} (hr : Rel cx nt ρ st a w) (hn : cx.arg = none) {d : D} {v : Value} (hd : Rd w (Own cx ρ st.σ) ρ d v) {K : T -> Prop} (h : A7Q b8 st.σ d K) : ∃ t, K t /\ cK w (λb => b < cx.w0.heap.size) t v := by
  unfold A7Q at h;split at h
  · rename_i t
    cases hd with
    | p _ _ hd =>
    split at h
    · rename_i f hrow
      refine ⟨_, h, ?_⟩;have := lL hd hrow;cases this with
      | cQ _ a cap hf hn => exact .cQ false a cap (by simp) hn
      | sl _ _ sz bL off cap fc k1 k2 k3 k4 k5 k6 k7 k8 k9 => exact .cQ false _ cap (by simp) (by simp)
    · obtain ⟨hf, h⟩ := h
      exact ⟨_, h, hd.HH hf⟩
  · rename_i k
    split at h
    · rename_i z rows hσ
      obtain ⟨hf, h⟩ := h;refine ⟨_, h, ?_⟩;have this : cK w (λ_ => False) (.sl false rows) v := C0 (own0 := λ_ => False) (τ := st.σ) hr.inv (λb hb => hb.elim) (λ_ _ h => h) (λ_ _ _ _ _ _ h => h) 1 hd (by simp [iU, hσ]);have flatc : ∀ i j (hi : i < rows.length) (hj : j < rows[i].length), rows[i][j].flat = true := λi j hi hj => List.all_eq_true.1 (List.all_eq_true.1 hf _ (ak hi)) _ (ak hj);cases hd with
      | own _ l hl hL h1 h2 =>
        have hm := hr.inv.ABU hn k _ l hσ hl hL rfl;generalize hvv : (Value.slice (some ⟨l.bL, 0, none⟩) l.L l.C) = v at this;cases this with
        | cQ _ a cap hf hn => exact .cQ false a cap (by simp) hn
        | sl _ _ sz bL off cap f k1 k2 k3 k4 k5 k6 k7 k8 k9 =>
          have e : l.bL = bL := by
            injection hvv with e1 e2 e3
            injection e1 with e1
            injection e1
          exact .sl false rows sz bL off cap f k1 k2 k3 (by show ¬ bL < _; omega) k5 k6 k7 k8 (λi j hi hj => (k9 i j hi hj).HH (flatc i j hi hj))
      | dF _ l a hl hL =>
        generalize hvv : (Value.slice a 0 0) = v at this;cases this with
        | cQ _ a cap hf hn => exact .cQ false a cap (by simp) hn
        | sl _ _ sz bL off cap f k1 k2 k3 k4 k5 k6 k7 k8 k9 =>
          have e : rows = [] := by
            injection hvv with e1 e2 e3
            exact List.eq_nil_of_length_eq_zero e2.symm
          subst e;exact .cQ false _ cap (by simp) (by simp)
    · exact h.elim
  · rename_i k
    split at h
    · rename_i es hσ
      obtain ⟨hf, h⟩ := h;refine ⟨_, h, ?_⟩;obtain ⟨l', ents, hl', hL, ho, hE⟩ := hr.inv.N6 hσ;cases hd with
      | map _ l hl =>
      have hll : l' = l := by rw [hl] at hl'; exact (Option.some.inj hl').symm
      subst hll;have hm := hr.inv.ABU hn k _ l' hσ hl hL rfl;have hlen : (es.map λe => (e.1, XF e.2)).length = es.length := by simp
      have hex : ∀ i (hi : i < es.length), ∃ e, ents[i]? = some e /\ e.key = es[i].1 /\ e.born = i /\ cK w (λb => b < cx.w0.heap.size) (XF es[i].2) e.val := by
        intro i hi;obtain ⟨e, a1, a2, a3, a4⟩ := hE.2 i hi;have hp := List.all_eq_true.1 hf es[i] (ak hi);refine ⟨e, by rw [<- Array.getElem?_toList]; exact a1, a2, by omega, ?_⟩;generalize es[i].2 = d at hp a4;cases d with
        | p t =>
          cases a4 with
          | p _ _ a4 => exact a4.HH hp
        | _ => cases hp
      refine .mp _ l'.bL ents (λi => ents.getD i ⟨undef, undef, 0⟩) (by show ¬ l'.bL < _; omega) ((hr.inv.new k l' hl).2 hL).1 (by rw [hlen]; exact ho) (by rw [hlen]; simpa using hE.1) (λi hi => ?_) (λi hi => ?_)
      · obtain ⟨e, a1, a2, a3, _⟩ := hex i (by omega)
        rw [show ents.getD i ⟨undef, undef, 0⟩ = e by rw [Array.getD_eq_getD_getElem?, a1]; rfl];exact ⟨a1, by simpa using a2, a3⟩
      · obtain ⟨e, a1, _, _, a4⟩ := hex i (by omega)
        rw [show ents.getD i ⟨undef, undef, 0⟩ = e by rw [Array.getD_eq_getD_getElem?, a1]; rfl];simpa using a4
    · exact h.elim
  · exact h.elim
def AB1 {cx : Cx} {nt : Nat} {ρ : Nat -> Option Loc} {st : St} {a : Act} {w : World} (hr : Rel cx nt ρ st a w) (hn : cx.arg = none) : ∀ {ds : List D} {vs : List Value} {K : List T -> Prop}, dA (Rd w (Own cx ρ st.σ) ρ) ds vs.toArray -> A0K b8 st.σ ds K -> ∃ ts, K ts /\ dA (cK w (λb => b < cx.w0.heap.size)) ts vs.toArray
  | [], vs, K, ha, h => by
    have : vs = [] := by simpa using ha.1
    subst this;exact ⟨[], h, dA.nil⟩
  | d :: ds, vs, K, ha, h => by
    cases vs with
    | nil => have := ha.1; simp at this
    | cons v vs =>
      have h0 := ha.2 0 (by simp);have ht : dA (Rd w (Own cx ρ st.σ) ρ) ds vs.toArray := ⟨by have := ha.1; simp at this ⊢; exact this, λi hi => by
        have := ha.2 (i + 1) (by simp; omega);simpa using this⟩
      obtain ⟨t, k1, k2⟩ := AKY hr hn (by simpa using h0) h;obtain ⟨ts, k3, k4⟩ := AB1 hr hn ht k1;refine ⟨t :: ts, k3, ?_⟩;have := (dA.one (R := cK w (λb => b < cx.w0.heap.size)) k2).append k4;simpa using this
def A26 {a : Act} {w : World} (hr : Rel cx nt ρ st a w) (hn : cx.arg = none) {fn : Func} {R : T -> Prop} {e : Exit} (h : BFG b8 cx.P fn.results R e st) :
    lA e = true /\ ∃ v t, (results fn a.tmps).run cx.P w = .ok v w /\ R t /\ cK w (λb => b < cx.w0.heap.size) t v := by
  have run : ∀ {ds : List D}, vV cx.P st fn.results.toList = some ds -> ∃ vs : Array Value, (fn.results.mapM (vW a.tmps)).run cx.P w = .ok vs w /\ dA (Rd w (Own cx ρ st.σ) ρ) ds vs := by
    intro ds hds;obtain ⟨vs, h1, h2⟩ := nG hr hds;refine ⟨vs.toArray, ?_, h2⟩;rw [Array.mapM_eq_mapM_toList, Sem.run_map, h1];rfl
  unfold BFG at h;split at h
  · rename_i d he hd
    refine ⟨he, ?_⟩;obtain ⟨vs, h1, h2⟩ := run hd;have hs : vs.size = 1 := by simpa using h2.1
    have h3 := h2.2 0 (by simp);have h4 : vs.getD 0 undef = vs[0] := by simp [Array.getD, hs]
    rw [h4] at h3;obtain ⟨t, k1, k2⟩ := AKY hr hn h3 h;refine ⟨vs[0], t, ?_, k1, k2⟩;rw [fN, Sem.run_bind, h1];simp [hs]
  · rename_i ds hne he hds
    refine ⟨he, ?_⟩;obtain ⟨vs, h1, h2⟩ := run hds;have hs : ¬ vs.size = 1 := by
      intro hs;rw [h2.1] at hs;obtain ⟨d, rfl⟩ := List.length_eq_one_iff.1 hs;exact hne d rfl
    obtain ⟨ts, k1, k2⟩ := AB1 hr hn (vs := vs.toList) (by simpa using h2) h;refine ⟨.tuple vs, .b9 ts, ?_, k1, .b9 ts vs (by simpa using k2.1) (by simpa using k2.2)⟩;rw [fN, Sem.run_bind, h1];simp [hs]
  · exact h.elim
variable {g:List T -> Option T}
def AB0 (hE : aU P E) (hm : P.follows .mixedOrders = true) (hn : cI P = true) (hh : fS E) (k : Nat) {f : FuncId} (hex : ∃ fn c, P.funcs[f]? = some fn /\ fn.body = some c)
    (h : ∀ args r, g args = some r -> (∀ t ∈ args, Bd t) -> wE b8 P E Hs k f args (λx => x = r)) : kR P f g := by
  obtain ⟨fn, c, hf, hb⟩ := hex;refine ⟨⟨fn, hf, nZ hn hf, by simp [hb]⟩, λw own args vs r hG hown ha hg => ?_⟩;have hbd : ∀ t ∈ args, Bd t := by
    intro t ht;obtain ⟨i, hi, rfl⟩ := List.mem_iff_getElem.1 ht;exact (ha.2 i hi).bd
  have hs := h args r hg hbd;simp only [wE, hf, hb] at hs;split at hs
  · rename_i c' he hlen
    cases he;have hlen : args.length <= fn.ntmps := of_decide_eq_true hlen
    let cx : Cx := MW P own w
    refine calls_of_wp hf hb ?_;refine wp_mono (zQ hE hm hh (vN hE hm hn hh k) c cx rfl _ (st0 args) hs _ _ w (KP (P := P) (nt := fn.ntmps) hG hown ha hlen)) ?_;rintro e a' w' ⟨st', ρ', hr', hq, _⟩;obtain ⟨he, v, t, h1, rfl, h2⟩ := A26 hr' rfl hq;rcases mM he with rfl | rfl
    · exact ⟨hr'.defers, v, h1, v, rfl, h2, hr'.inv.below.toB⟩
    · exact ⟨hr'.defers, v, h1, v, rfl, h2, hr'.inv.below.toB⟩
  · exact hs.elim
def HN (hE : aU P E) (hm : P.follows .mixedOrders = true) (hn : cI P = true) (hh : fS E) (k : Nat) {f : FuncId} (hex : ∃ fn c, P.funcs[f]? = some fn /\ fn.body = some c)
    (h : ∀ args r, g args = some r -> (∀ t ∈ args, Bd t) -> eJ b8 P E Hs k f args (λx => x = r)) : aP P f g := by
  obtain ⟨fn, c, hf, hb⟩ := hex;refine ⟨⟨fn, hf, nZ hn hf, by simp [hb]⟩, λw own args vs r hG hown ha hg => ?_⟩;have hbd : ∀ t ∈ args, Bd t := by
    intro t ht;obtain ⟨i, hi, rfl⟩ := List.mem_iff_getElem.1 ht;exact (ha.2 i hi).bd
  have hs := h args r hg hbd;simp only [eJ, hf, hb] at hs;split at hs
  · rename_i c' he hlen
    cases he;have hlen : args.length <= fn.ntmps := of_decide_eq_true hlen
    let cx : Cx := MW P own w
    refine calls_of_wp hf hb ?_;refine wp_mono (zQ hE hm hh (vN hE hm hn hh k) c cx rfl _ (st0 args) hs _ _ w (KP (P := P) (nt := fn.ntmps) hG hown ha hlen)) ?_;rintro e a' w' ⟨st', ρ', hr', hq, _⟩;unfold BIX at hq;split at hq
    · rename_i r' he hres
      subst hq;obtain ⟨v, h1, h2⟩ := A10 hr' hres;rcases mM he with rfl | rfl
      · exact ⟨hr'.defers, v, h1, v, rfl, h2, hr'.inv.below.toB⟩
      · exact ⟨hr'.defers, v, h1, v, rfl, h2, hr'.inv.below.toB⟩
    · exact hq.elim
  · exact hs.elim
def NO (hE : aU P E) (hm : P.follows .mixedOrders = true) (hn : cI P = true) (hh : fS E) (k : Nat) {f : FuncId} {g : List T -> Option (List (List T))} (hex : ∃ fn c, P.funcs[f]? = some fn /\ fn.body = some c)
    (h : ∀ args r, g args = some r -> (∀ t ∈ args, Bd t) -> PW b8 P E Hs k f args (λx => x = r)) : fG P f g := by
  obtain ⟨fn, c, hf, hb⟩ := hex;refine ⟨⟨fn, hf, nZ hn hf, by simp [hb]⟩, λw own args vs r hG hown ha hg => ?_⟩;have hbd : ∀ t ∈ args, Bd t := by
    intro t ht;obtain ⟨i, hi, rfl⟩ := List.mem_iff_getElem.1 ht;exact (ha.2 i hi).bd
  have hs := h args r hg hbd;simp only [PW, hf, hb] at hs;split at hs
  · rename_i c' he hlen
    cases he;have hlen : args.length <= fn.ntmps := of_decide_eq_true hlen
    let cx : Cx := MW P own w
    refine calls_of_wp hf hb ?_;refine wp_mono (zQ hE hm hh (vN hE hm hn hh k) c cx rfl _ (st0 args) hs _ _ w (KP (P := P) (nt := fn.ntmps) hG hown ha hlen)) ?_;rintro e a' w' ⟨st', ρ', hr', hq, _⟩;unfold BIV at hq;split at hq
    · rename_i r' he hres
      subst hq;obtain ⟨v, h1, h2, h3⟩ := A11 hr' rfl hres;rcases mM he with rfl | rfl
      · exact ⟨hr'.defers, v, h1, v, rfl, hr'.inv.below.toB, h2, h3⟩
      · exact ⟨hr'.defers, v, h1, v, rfl, hr'.inv.below.toB, h2, h3⟩
    · exact hq.elim
  · exact hs.elim
def ARE (hE : aU P E) (hm : P.follows .mixedOrders = true) (hn : cI P = true) (hh : fS E) (k : Nat) {f : FuncId} {ci : Nat} (hex : ∃ fn c, P.funcs[f]? = some fn /\ fn.body = some c)
    (h : ∀ args r, g args = some r -> (∀ t ∈ args, Bd t) -> XD b8 P E Hs k ci f args (λx => x = r)) : L6 P f ci g := by
  obtain ⟨fn, c, hf, hb⟩ := hex;refine ⟨⟨fn, hf, nZ hn hf, by simp [hb]⟩, λw own args vs r hG hown ha hg => ?_⟩;have hbd : ∀ t ∈ args, Bd t := by
    intro t ht;obtain ⟨i, hi, rfl⟩ := List.mem_iff_getElem.1 ht;exact (ha.2 i hi).bd
  have hs := h args (.agg r) hg hbd;simp only [XD, hf, hb] at hs;split at hs
  · rename_i c' he hlen
    cases he;have hlen : args.length <= fn.ntmps := of_decide_eq_true hlen
    let cx : Cx := MW P own w
    refine calls_of_wp hf hb ?_;refine wp_mono (zQ hE hm hh (vN hE hm hn hh k) c cx rfl _ (st0 args) hs _ _ w (KP (P := P) (nt := fn.ntmps) hG hown ha hlen)) ?_;rintro e a' w' ⟨st', ρ', hr', hq, _⟩;unfold BIW at hq;split at hq
    · rename_i r' he hres
      cases hq;obtain ⟨vc, h1, h2, h3⟩ := A15 hr' rfl hres;rcases mM he with rfl | rfl
      · exact ⟨hr'.defers, _, h1, vc, rfl, hr'.inv.below.toB, h2, h3⟩
      · exact ⟨hr'.defers, _, h1, vc, rfl, hr'.inv.below.toB, h2, h3⟩
    · exact hq.elim
  · exact hs.elim
def AK0 : Fn -> Bool
  | .heap _ => false
  | _ => true
def aO : ∀ {l : List (FuncId × Fn)}, l.all (λx => AK0 x.2) = true -> fS (Env.of l)
  | [], _, f, g, h => by simp [Env.of] at h
  | (k, x) :: l, hl, f, g, h => by
    simp only [List.all_cons, ac] at hl;simp only [Env.of] at h;split at h
    · cases h; simp [AK0] at hl
    · exact aO hl.2 f g h
end
end Go.Pv
