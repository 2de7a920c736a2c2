/-
  The symbolic executor, part g: code, and functions.
-/
import Derived.Test.YtcnfagefgkblkaaGreatDoorVrkf
set_option linter.defProp false
set_option linter.unusedSimpArgs false
namespace Go.Pv
open Go Go.RowKit
inductive LH where
  | none
  | inv (its : List It)
  | alt (a b : List It)
  | SA (n : Nat)
  | alts (l : List (List It))
structure Hint where
  loop : Nat -> LH
  join : Nat -> Nat -> Option (List It)
  ent : Nat -> Ent
def aX : Hint := ⟨λ_ => .none, λ_ _ => none, λ_ => none⟩
def vN : Code -> Option Nat
  | .region id _ _ => some id
  | .seq a b => match vN a with
    | some i => some i
    | none => vN b
  | .cond _ a b => match vN a with
    | some i => some i
    | none => vN b
  | .block _ b => vN b
  | .scope b => vN b
  | .loop b => vN b
  | _ => none
def K1 : Code -> Option Nat
  | .region id _ _ => some id
  | .seq a b => match K1 b with
    | some i => some i
    | none => K1 a
  | .cond _ a b => match K1 b with
    | some i => some i
    | none => K1 a
  | .block _ b => K1 b
  | .scope b => K1 b
  | .loop b => K1 b
  | _ => none
def ACO (i : Nat) : List Oper -> Bool
  | [] => false
  | o :: l => (match o.dst with
    | some t => t == i
    | none => false) || ACO i l
def asg : Code -> Nat -> Bool
  | .region _ ops _, i => ACO i ops.toList
  | .seq a b, i => asg a i || asg b i
  | .cond _ a b, i => asg a i || asg b i
  | .block _ b, i => asg b i
  | .scope b, i => asg b i
  | .loop b, i => asg b i
  | _, _ => false
def ends (t : Option Nat) : Code -> Bool
  | .skip => t.isNone
  | .label _ => t.isNone
  | .region _ _ _ => t.isNone
  | .seq a b => (ends none a && ends t b) || (t.isSome && ends t a)
  | .cond _ a b => ends t a || ends t b
  | .block id b => match t with
    | none => ends none b || ends (some id) b
    | some j => ends (some j) b
  | .loop b => t.isSome && ends t b
  | .scope b => ends t b
  | .exit id => match t with
    | none => false
    | some j => j == id
  | _ => false
def iE (t : Option Nat) : Code -> Nat -> Bool
  | .region _ ops _, i => ACO i ops.toList
  | .seq a b, i => (ends none a && ends t b && (iE none a i || iE t b i)) || (t.isSome && ends t a && iE t a i)
  | .cond _ a b, i => (ends t a && iE t a i) || (ends t b && iE t b i)
  | .block id b, i => match t with
    | none => (ends none b && iE none b i) || (ends (some id) b && iE (some id) b i)
    | some j => iE (some j) b i
  | .loop b, i => (ends none b && iE none b i) || iE t b i
  | .scope b, i => iE t b i
  | _, _ => false
def o6 (c : Code) : Exit -> Nat -> Bool
  | .normal => iE none c
  | .exit id => iE (some id) c
  | _ => asg c
def kS (c : Code) : Exit -> Bool
  | .normal => ends none c
  | .exit id => ends (some id) c
  | _ => true
def OY : ∀ {l : List Oper} {o : Oper} {t : Tmp}, o ∈ l -> o.dst = some t -> ACO t l = true
  | [], _, _, h, _ => by cases h
  | a :: l, o, t, h, ht => by
    simp only [ACO, Bool.or_eq_true];rcases List.mem_cons.1 h with rfl | h
    · simp_all
    · exact .inr (OY h ht)
def BK5 (H : Hint) (a : Code) : Option (List It) := match vN a, K1 a with
  | some i, some j => H.join i j
  | _, _ => none
def fits (st : St) : List It -> Bool
  | [] => true
  | .arr k _ _ :: l => (match st.σ k with
    | some (.arr _ _ _) => true
    | _ => false) && fits st l
  | .own t _ _ :: l => (match st.s t with
    | .own _ => true
    | .p t => (match fP t with
      | some (true, []) => true
      | _ => false)
    | _ => false) && fits st l
  | .box k _ :: l => (match st.σ k with
    | some (.rows _ _) => true
    | _ => false) && fits st l
  | .map k _ _ _ :: l => (match st.σ k with
    | some (.map _ _) => true
    | _ => false) && fits st l
  | .b9 k :: l => (match st.σ k with
    | some (.b9 _ _ _ _) => true
    | _ => false) && fits st l
  | _ :: l => fits st l
def BMP (h : LH) (st : St) : Option (List It) := match h with
  | .inv its => some its
  | .alt a b => match fits st a with
    | true => some a
    | false => some b
  | .alts l => l.find? λits => fits st its
  | _ => none
def BK9 (H : Hint) (b : Code) : LH := match vN b with
  | some i => H.loop i
  | none => .none
section
variable (C : gZ) (P : Program) (E : Env) (I : Inl) (H : Hint) (nt : Nat)
def BHM (ops : List Oper) (st : St) : Nat -> Operand -> Option Nat
  | 0, _ => none
  | f + 1, x => match ev (cD true st.s) x with
    | .ptr k _ _ => some k
    | _ => match x with
      | .tmp t => match ops.find? (λo => o.dst == some t) with
        | some o => match o.op with
          | .fieldAddr _ a _ => BHM ops st f a
          | _ => none
        | none => none
      | _ => none
def BQQ (ops : Array Oper) (st : St) : Option Nat := ops.toList.foldl (λm o => match o.op with
  | .store _ a _ => match BHM ops.toList st 6 a, m with
    | some k, some m => some (min k m)
    | _, _ => none
  | _ => m) (some st.n)
def A6O (E : Env) (ops : Array Oper) : Option Nat := ((List.range ops.size).filter λi => match ops[i]? with
  | some o => match o.op with
    | .call c => match c.callee with
      | .value (.tmp _) => true
      | .value (.func f) => (E f).isNone
      | _ => false
    | _ => false
  | none => false).getLast?
def BHQ (E : Env) (ops : Array Oper) : Option Nat := match A6O E ops with
  | some t => match YZ E ops t with
    | true => some t
    | false => none
  | none => none
def BPW (id : Nat) (ops : Array Oper) (draw : Bool) (st : St) (K : St -> Prop) : Prop :=
  match draw with
  | false => evK C P E nt I (H.ent id) false ops ops.toList st K
  | true => match BHQ E ops with
   | some t => w8 false C P E nt ops st.n (List.range t) (fJ ops st) λst1 => evK C P E nt I none false ops (ops.toList.drop t) st1 K
   | none => match sJ E ops with
    | true => evK C P E nt I none true ops ops.toList st K
    | false => match tG false E ops with
      | true => w8 false C P E nt ops st.n (ES false E ops) (fJ ops st) K
      | false => match (tG true E ops && BEX ops) && !(E.marked 9000000000), BQQ ops st with
       | true, some base => match Nat.ble base st.n with
        | true => w8 true C P E nt ops base (ES true E ops) (fJ ops st) K
        | false => C.bad 510
       | _, _ => match Nat.ble ops.size 7 with
        | true => anyS C P E nt ops K ops.size (Array.replicate ops.size false) st
        | false => match AVV false E ops with
          | true => OD false C P E nt ops st.n (w3 ops.toList []) K ops.size (Array.replicate ops.size false) (fJ ops st)
          | false => C.bad 501
def ATN (its : List It) (st₀ : St) (X : HW.den its -> Prop) (Q : Exit -> St -> Prop) : Exit -> St -> Prop
  | .normal, st => match K3 its st₀ st with
    | true => A3Y C st₀ st its X
    | false => C.bad 502
  | e, st => Q e (unS its st₀ st)
def unr (F : (Exit -> St -> Prop) -> St -> Prop) (Q : Exit -> St -> Prop) : Nat -> St -> Prop
  | 0, _ => C.bad 503
  | n + 1, st => F (λe st' => match e with
    | .normal => unr F Q n st'
    | e => Q e st') st
def BEI (c : Operand) (b : Bool) (st : St) : St := match c with
  | .tmp t => match st.s t with
    | .p (.v (.bool _)) => ⟨b8 st.s t (.p (.v (.bool b))), st.σ, st.n⟩
    | _ => st
  | _ => st
def sx : Code -> (Exit -> St -> Prop) -> St -> Prop
  | .skip, Q, st => Q .normal st
  | .label _, Q, st => Q .normal st
  | .region id ops draw, Q, st => BPW C P E I H nt id ops draw st (Q .normal)
  | .seq a b, Q, st => match BK5 H a with
    | none => sx a (AGS (sx b Q) Q) st
    | some its => C.join (HW.den its) (λX => sx a (ATN C its st X Q) (S1 its st)) λy => sx b Q (unS its st (CS its (iE none a) st y))
  | .cond c t e, Q, st => match ev (cD true st.s) c with
    | .p (.v (.bool b)) => aD b (sx t Q (BEI c true st)) (sx e Q (BEI c false st))
    | _ => C.bad 504
  | .block id b, Q, st => sx b (HY id Q) st
  | .loop b, Q, st => match BK9 H b with
    | .SA n => unr C (sx b) Q n st
    | h => match BMP h st with
      | some its => match K3 its st (S1 its st) && ends none b with
        | true => A3Y C st (S1 its st) its λy => C.loop (HW.den its) (λX y => sx b (ATN C its st X Q) (CS its (iE none b) st y)) y
        | false => C.bad 505
      | none => C.bad 506
  | .exit id, Q, st => Q (.exit id) st
  | .ret, Q, st => Q .ret st
  | .scope b, Q, st => sx b (YW Q) st
  | _, _, _ => C.bad 507
end
variable {st:St}
def APK {c : Operand} {b : Bool} (h : ev (cD true st.s) c = .p (.v (.bool b))) : BEI c b st = st := by
  unfold BEI;split
  · rename_i t
    split
    · rename_i b' hb
      have : b' = b := by
        simp only [ev, cD, hb, strip] at h;cases h; rfl
      subst this;have : b8 st.s t (.p (.v (.bool b'))) = st.s := by
        funext i
        by_cases e : i = t
        · simp_all
        · rw [bL _ _ e]
      rw [this]
    · rfl
  · rfl
def EL (P : Program) (b : Code) (Q : Exit -> Act -> World -> Prop) (a : Act) (w : World) : Prop :=
  ∀ (fb : Frame) (k : List Item) (cs : List Frame), ∃ e a' w', Q e a' w' /\ Arrives P (lone (fb.at a (.code b :: .inLoop b :: k)) cs w) fb k cs e a' w'
variable {P:Program}{Q:Exit -> Act -> World -> Prop}
def EL.wp {b : Code} {a : Act} {w : World} (h : EL P b Q a w) : (Code.loop b).wp P Q a w := by
  intro fb k cs;obtain ⟨e, a', w', hq, harr⟩ := h fb k cs;exact ⟨e, a', w', hq, .of_steps (.one step_loop) harr⟩
def EL.round {b : Code} {a : Act} {w : World} (h : b.wp P (λe a w => match e with
    | .normal => EL P b Q a w
    | e => Q e a w) a w) : EL P b Q a w := by
  intro fb k cs;obtain ⟨e, a₁, w₁, hq, harr⟩ := h fb (.inLoop b :: k) cs;cases e with
  | normal =>
    obtain ⟨e₂, a₂, w₂, hq₂, harr₂⟩ := hq fb k cs;exact ⟨e₂, a₂, w₂, hq₂, .of_steps (Steps.trans harr (.one step_inLoop)) harr₂⟩
  | exit id => exact ⟨_, a₁, w₁, hq, .pass (x := .inLoop b) rfl (λ_ _ => .inl (by simp)) harr⟩
  | goto l => exact ⟨_, a₁, w₁, hq, .pass (x := .inLoop b) rfl (λ_ _ => .inl (by simp)) harr⟩
  | ret => exact ⟨_, a₁, w₁, hq, .pass (x := .inLoop b) rfl (λ_ _ => .inl (by simp)) harr⟩
  | panic ch => exact ⟨_, a₁, w₁, hq, .pass (x := .inLoop b) rfl (λ_ _ => .inl (by simp)) harr⟩
  | outgrown => exact ⟨_, a₁, w₁, hq, .pass (x := .inLoop b) rfl (λ_ _ => .inl (by simp)) harr⟩
section
variable {P : Program} {E : Env} {I : Inl} {H : Hint} {nt : Nat}
variable {its:List It}{A:Nat -> Bool}{st₀:St}{y:HW.den its}
def Fr.BHF {B D:Nat -> Bool} (h : Fr B (CS its A st₀ y) st) (hD : ∀ i, D i = false -> A i = false /\ B i = false) : Fr D st₀ (unS its st₀ st) /\ ∀ k x, kept its st₀ k = true -> st₀.σ k = some x -> st.σ k = some (lock x) := by
  have hk : ∀ k x, kept its st₀ k = true -> st₀.σ k = some x -> st.σ k = some (lock x) := by
    intro k x hke hx;obtain ⟨hlt, x0, h0, h1, _⟩ := mI hke;rw [hx] at h0; cases h0;exact h.b.2 k (lock x) (by show k < st₀.n + xB its; omega) (by simp only [CS, ah hlt, hke, hx, Option.map_some]) h1
  refine ⟨⟨λi hi => ?_, ?_, λk x hlt hx hw => ?_⟩, hk⟩
  · obtain ⟨h1, h2⟩ := hD i hi
    have := h.s i h2;simp only [CS, h1] at this;exact this
  · have := h.b.1
    simp only [CS] at this;show st₀.n <= st.n;omega
  · have hke := F4 (its := its) hlt hx hw
    simp only [unS, hke, hx]
def Fr.BPR (h : Fr A (S1 its st₀) st) : Fr A st₀ (unS its st₀ st) /\ ∀ k x, kept its st₀ k = true -> st₀.σ k = some x -> st.σ k = some (lock x) := by
  have hk : ∀ k x, kept its st₀ k = true -> st₀.σ k = some x -> st.σ k = some (lock x) := by
    intro k x hke hx;obtain ⟨hlt, x0, h0, h1, _⟩ := mI hke;rw [hx] at h0; cases h0;exact h.b.2 k (lock x) hlt (by simp only [S1, hke, hx, Option.map_some]) h1
  refine ⟨⟨λi hi => h.s i hi, h.b.1, λk x hlt hx hw => ?_⟩, hk⟩;have hke := F4 (its := its) hlt hx hw;simp only [unS, hke, hx]
def BD4 : Fr A st₀ (unS its st₀ (CS its A st₀ y)) := by
  refine ⟨λi hi => ?_, ?_, λk x hlt hx hw => ?_⟩
  · simp only [unS, CS, hi]
  · show st₀.n <= st₀.n + xB its
    omega
  · have hke := F4 (its := its) hlt hx hw
    simp only [unS, hke, hx]
def BEC : ∀ k x, kept its st₀ k = true -> st₀.σ k = some x -> (CS its A st₀ y).σ k = some (lock x) := by
  intro k x hke hx;obtain ⟨hlt, _⟩ := mI hke;simp only [CS, ah hlt, hke, hx, Option.map_some]
def BEJ : ∀ k x, kept its st₀ k = true -> st₀.σ k = some x -> (S1 its st₀).σ k = some (lock x) := by
  intro k x hke hx;simp only [S1, hke, hx, Option.map_some]
variable {cx:Cx}{ρ:Nat -> Option Loc}
def AJE {ρ₀:Nat -> Option Loc} {a₀ a : Act} {w₀ w : World} (hR0 : Rel cx nt ρ₀ st₀ a₀ w₀) (hR : Rel (LK cx its st₀ ρ₀ w₀) nt ρ st a w) (hs : ∀ i, A i = false -> st.s i = st₀.s i)
    (hk : ∀ k x, kept its st₀ k = true -> st₀.σ k = some x -> st.σ k = some (lock x)) (hok : K3 its st₀ st = true) (hy : AOH st₀.n st₀ st its y) : ∃ ρ', Rel (LK cx its st₀ ρ₀ w₀) nt ρ' (CS its A st₀ y) a w := by
  have hdom : ∀ k l, ρ₀ k = some l -> k < st₀.n := λk l hl => (hR0.inv.new k l hl).1;refine BCN hR (λi _ => (hR0.nF i).blw hdom) (λk x hx => ?_) hdom (λk x hx hw => ?_) hs hk hok hy
  · obtain ⟨l, _, hb⟩ := hR0.inv.boxes k x hx
    exact hb.blw hdom
  · change (S1 its st₀).σ k = some x at hx
    cases hke : kept its st₀ k with
    | true => rfl
    | false =>
      simp only [S1, hke] at hx;obtain ⟨l, hl, _⟩ := hR0.inv.boxes k x hx;rw [F4 (hdom k l hl) hx hw] at hke;cases hke
def QM (h : K3 its st₀ st = true) : LL st₀.n its = true := by
  unfold K3 at h;simp_all
variable {X:HW.den its -> Prop}
def KK {Q : Exit -> St -> Prop} (h : ATN bS its st₀ X Q .normal st) : K3 its st₀ st = true /\ ∃ y, X y /\ AOH st₀.n st₀ st its y := by
  simp only [ATN] at h;split at h
  · rename_i hok
    exact ⟨hok, O6 (QM hok) h⟩
  · exact h.elim
def O3 {Q : Exit -> St -> Prop} {e : Exit} (he : e ≠ .normal) (h : ATN bS its st₀ X Q e st) : Q e (unS its st₀ st) := by
  cases e <;> first | exact h | exact absurd rfl he
def AB7 {t : Option Nat} : ∀ {c : Code} {i : Nat}, asg c i = false -> iE t c i = false := by
  intro c
  induction c generalizing t with
  | seq a b iha ihb =>
    intro i h;simp only [asg, Bool.or_eq_false_iff] at h;simp only [iE, iha (t := none) h.1, iha (t := t) h.1, ihb (t := t) h.2, Bool.or_false, Bool.and_false]
  | cond c a b iha ihb =>
    intro i h;simp only [asg, Bool.or_eq_false_iff] at h;simp only [iE, iha (t := t) h.1, ihb (t := t) h.2, Bool.or_false, Bool.and_false]
  | block id b ih =>
    intro i h;cases t with
    | none => simp only [iE, ih (t := none) h, ih (t := some id) h, Bool.and_false, Bool.or_false]
    | some j => simp only [iE, ih (t := some j) h]
  | loop b ih =>
    intro i h;simp only [iE, ih (t := none) h, ih (t := t) h, Bool.and_false, Bool.or_false]
  | region id ops draw => intro i h; exact h
  | scope b ih =>
    intro i h;simp only [iE, ih (t := t) h]
  | _ => intro i h; rfl
structure FrE (c : Code) (e : Exit) (st st' : St) : Prop where
  fr : Fr (o6 c e) st st'
  ok : kS c e = true
def vD (hE : aQ P E) (hm : P.follows .mixedOrders = true) (hh : fH E) (hI : AJC P I) : ∀ (c : Code) (cx : Cx), cx.P = P -> ∀ (Q : Exit -> St -> Prop) (st : St), sx bS P E I H nt c Q st -> AW cx nt c (λe st' => Q e st' /\ FrE c e st st') st := by
  intro c
  induction c with
  | skip => exact λcx hP Q st h ρ a w hr => wp_skip ⟨st, ρ, hr, h, Fr.refl _ _, rfl⟩
  | label l => exact λcx hP Q st h ρ a w hr => wp_label ⟨st, ρ, hr, h, Fr.refl _ _, rfl⟩
  | region id ops draw =>
    intro cx hP Q st h;subst hP;have hA : ∀ o ∈ ops.toList, ∀ t, o.dst = some t -> o6 (.region id ops draw) .normal t = true := λo ho t ht => OY ho ht;simp only [sx, BPW] at h;split at h
    · intro ρ a w hr
      refine wp_region ?_;have := xR (Q := sV cx nt λe st' => Q e st' /\ FrE (.region id ops false) e st st') hE hh hI (λst' ρ a w hr' hf hk => ⟨st', ρ, hr', hk, hf, rfl⟩) ops.toList 0 st ρ a w (by simp) hA (Fr.refl _ _) hr h;rw [List.range_eq_range'];simpa using this
    · split at h
      · rename_i t htail
        have hT : YZ E ops t = true := by
          unfold BHQ at htail;split at htail
          · split at htail
            · cases htail; assumption
            · cases htail
          · cases htail
        obtain ⟨st1, h1, h2, h3⟩ := E2 hh hA (List.range t) (fJ ops st) (Fr.refl _ _) h;have hroom : Fr (o6 (.region id ops true) .normal) st (fJ ops st) := ⟨λ_ _ => rfl, rK.same (n' := (fJ ops st).n) (Nat.le_add_right _ _)⟩
        refine AXR hE hm hT h1 λρ a w hr => ?_;have := xR (Q := sV cx nt λe st' => Q e st' /\ FrE (.region id ops true) e st st') hE hh hI (λst' ρ a w hr' hf hk => ⟨st', ρ, hr', hk, hf, rfl⟩) (ops.toList.drop t) t st1 ρ a w (λj => by simp) (λo ho => hA o (List.mem_of_mem_drop ho)) (hroom.trans h2) hr h3;simpa using this
      split at h
      · rename_i hord
        obtain ⟨st', h1, h2, h3⟩ := A3W hh ops.toList st hA (Fr.refl _ _) h;exact AN8 hE hm hord h1 ⟨h3, h2, rfl⟩
      · split at h
        · rename_i hord
          obtain ⟨st', h1, h2, h3⟩ := E2 hh hA (ES false E ops) (fJ ops st) (Fr.refl _ _) h;have hroom : Fr (o6 (.region id ops true) .normal) st (fJ ops st) := ⟨λ_ _ => rfl, rK.same (n' := (fJ ops st).n) (Nat.le_add_right _ _)⟩
          exact AAQ hE hm hord h1 ⟨h3, hroom.trans h2, rfl⟩
        · split at h
          · rename_i hord hlow
            split at h
            · rename_i hle
              obtain ⟨st', h1, h2, h3⟩ := E2 hh hA (ES true E ops) (fJ ops st) (Fr.refl _ _) h;have hroom : Fr (o6 (.region id ops true) .normal) st (fJ ops st) := ⟨λ_ _ => rfl, rK.same (n' := (fJ ops st).n) (Nat.le_add_right _ _)⟩
              rw [ac, ac] at hord;exact AXQ hE hm (Nat.le_of_ble_eq_true hle) hord.1.2 hord.1.1 h1 ⟨h3, hroom.trans h2, rfl⟩
            · exact h.elim
          split at h
          · refine BHT hE hm ?_
            have := ABY hh hA ops.size (Array.replicate ops.size false) st (Fr.refl _ _) h;exact TG (λs hs => ⟨hs.2, hs.1, rfl⟩) this
          split at h
          · rename_i hmx
            have hroom : Fr (o6 (.region id ops true) .normal) st (fJ ops st) := ⟨λ_ _ => rfl, rK.same (n' := (fJ ops st).n) (Nat.le_add_right _ _)⟩
            have := TI (ms := w3 ops.toList []) (λj i hb => mJ ops.toList [] (by simp) (λj i hb => by simp at hb) j i hb) hh hA ops.size (Array.replicate ops.size false) (fJ ops st)
              (λm o _ hm' => by simp [Array.getElem?_replicate] at hm'; split at hm' <;> simp at hm') (Nat.le_add_right _ _) (Fr.refl _ _) h
            exact AXP hE hm hmx (TH (λs hs => ⟨hs.2, hroom.trans hs.1, rfl⟩) this)
          · exact h.elim
  | seq a b iha ihb =>
    intro cx hP Q st h;have fab : ∀ {e : Exit} {st st1 st2 : St}, Fr (iE none a) st st1 -> ends none a = true -> FrE b e st1 st2 -> FrE (.seq a b) e st st2 := by
      intro e st st1 st2 h1 h2 h3;have hends : kS (.seq a b) e = true := by
        have := h3.ok;cases e <;> simp only [kS, ends] at this ⊢ <;> simp [h2, this]
      have hi : ∀ i, o6 (.seq a b) e i = false -> iE none a i = false /\ o6 b e i = false := by
        intro i hi;have h4 := h3.ok;cases e <;> simp only [kS, o6, iE, asg] at hi h4 ⊢ <;> simp only [h2, h4, Bool.true_and, Bool.or_eq_false_iff] at hi <;> first | exact hi.1 | exact ⟨AB7 hi.1, hi.2⟩
      exact ⟨(h1.mono λi h => (hi i h).1).trans (h3.fr.mono λi h => (hi i h).2), hends⟩
    have fa : ∀ {e : Exit} {st st1 : St}, e ≠ .normal -> kS a e = true -> Fr (o6 a e) st st1 -> FrE (.seq a b) e st st1 := by
      intro e st st1 hne h2 h1;refine ⟨h1.mono λi hi => ?_, ?_⟩
      · cases e <;> simp only [kS, o6, iE, asg] at hi h2 ⊢
        · exact absurd rfl hne
        · simp only [h2, Option.isSome_some, Bool.true_and, Bool.or_eq_false_iff] at hi; exact hi.2
        all_goals (simp only [Bool.or_eq_false_iff] at hi; exact hi.1)
      · cases e <;> simp only [kS, ends] at h2 ⊢
        · exact absurd rfl hne
        · simp [h2]
    simp only [sx] at h;split at h
    · intro ρ act w hr
      refine wp_seq (wp_mono (iha cx hP _ st h ρ act w hr) ?_);rintro e a' w' ⟨st', ρ', hr', hq, hf⟩;by_cases he : e = .normal
      · subst he
        refine wp_mono (ihb cx hP Q st' hq ρ' a' w' hr') ?_;rintro e2 a2 w2 ⟨st2, ρ2, hr2, hq2, hf2⟩;exact ⟨st2, ρ2, hr2, hq2, fab hf.fr hf.ok hf2⟩
      · have hp : sV cx nt (λe st' => Q e st' /\ FrE (.seq a b) e st st') e a' w' := ⟨st', ρ', hr', by cases e <;> first | exact absurd rfl he | exact hq, fa he hf.ok hf.fr⟩
        cases e <;> first | exact absurd rfl he | exact hp
    · rename_i its hj
      intro ρ act w hr;have h : sx bS P E I H nt a (ATN bS its st (λy => sx bS P E I H nt b Q (unS its st (CS its (iE none a) st y))) Q) (S1 its st) := h;refine wp_seq ?_;have h1 := iha (LK cx its st ρ w) hP _ _ h ρ act w (A6T hr);refine wp_mono h1 ?_;rintro e a' w' ⟨st', ρ', hr', hq, hf⟩;obtain ⟨hf1, hk⟩ := hf.fr.BPR;by_cases he : e = .normal
      · subst he
        obtain ⟨hok, y, hX, hy⟩ := KK hq;obtain ⟨ρ2, hr2⟩ := AJE (A := iE none a) hr hr' (λi hi => hf.fr.s i hi) hk hok hy;have hr3 := AN7 hr hr2 BEC;refine wp_mono (ihb cx hP Q _ hX ρ2 a' w' hr3) ?_;rintro e2 a2 w2 ⟨st2, ρ2, hr2, hq2, hf2⟩;exact ⟨st2, ρ2, hr2, hq2, fab BD4 hf.ok hf2⟩
      · have := O3 he hq
        have hp : sV cx nt (λe st' => Q e st' /\ FrE (.seq a b) e st st') e a' w' := ⟨_, ρ', AN7 hr hr' hk, this, fa he hf.ok hf1⟩
        cases e <;> first | exact absurd rfl he | exact hp
  | cond c t e iht ihe =>
    intro cx hP Q st h ρ a w hr;simp only [sx] at h;split at h
    · rename_i b hb
      have hev := hr.evS c;rw [hb] at hev;have hval : a.eval c = .bool b := by
        generalize a.eval c = q at hev ⊢;cases hev with
        | p _ _ h => cases h; rfl
      refine wp_cond hval ?_;rw [rA] at h;have f1 : ∀ {x : Exit} {st st1 : St}, FrE t x st st1 -> FrE (.cond c t e) x st st1 := by
        intro x st st1 hf;have h2 := hf.ok;refine ⟨hf.fr.mono λi hi => ?_, ?_⟩
        · cases x <;> simp only [kS, o6, iE, asg] at hi h2 ⊢ <;> simp only [h2, Bool.true_and, Bool.or_eq_false_iff] at hi <;> exact hi.1
        · cases x <;> simp only [kS, ends] at h2 ⊢ <;> simp [h2]
      have f2 : ∀ {x : Exit} {st st1 : St}, FrE e x st st1 -> FrE (.cond c t e) x st st1 := by
        intro x st st1 hf;have h2 := hf.ok;refine ⟨hf.fr.mono λi hi => ?_, ?_⟩
        · cases x <;> simp only [kS, o6, iE, asg] at hi h2 ⊢ <;> simp only [h2, Bool.true_and, Bool.or_eq_false_iff] at hi <;> exact hi.2
        · cases x <;> simp only [kS, ends] at h2 ⊢ <;> simp [h2]
      cases b with
      | true =>
        rw [if_pos rfl];refine wp_mono (iht cx hP Q st (by have := h.1 rfl; rwa [APK hb] at this) ρ a w hr) ?_;rintro e a' w' ⟨st', ρ', hr', hq, hf⟩;exact ⟨st', ρ', hr', hq, f1 hf⟩
      | false =>
        rw [if_neg (by simp)];refine wp_mono (ihe cx hP Q st (by have := h.2 rfl; rwa [APK hb] at this) ρ a w hr) ?_;rintro e a' w' ⟨st', ρ', hr', hq, hf⟩;exact ⟨st', ρ', hr', hq, f2 hf⟩
    · exact h.elim
  | block id b ih =>
    intro cx hP Q st h ρ a w hr;refine wp_block (wp_mono (ih cx hP _ st h ρ a w hr) ?_);rintro e a' w' ⟨st', ρ', hr', hq, hf⟩;have h2 := hf.ok;cases e with
    | exit id' =>
      simp only [HY] at hq;simp only [Exit.inBlock];split at hq
      · rename_i e
        rw [if_pos e];subst e;refine ⟨st', ρ', hr', hq, hf.fr.mono λi hi => ?_, ?_⟩
        · simp only [kS, o6, iE] at hi h2 ⊢
          simp only [h2, Bool.true_and, Bool.or_eq_false_iff] at hi; exact hi.2
        · simp only [kS, ends] at h2 ⊢; simp [h2]
      · rename_i e
        rw [if_neg e];exact ⟨st', ρ', hr', hq, hf.fr.mono λi hi => by simpa only [o6, iE] using hi, by simpa only [kS, ends] using h2⟩
    | normal =>
      refine ⟨st', ρ', hr', hq, hf.fr.mono λi hi => ?_, ?_⟩
      · simp only [kS, o6, iE] at hi h2 ⊢
        simp only [h2, Bool.true_and, Bool.or_eq_false_iff] at hi; exact hi.1
      · simp only [kS, ends] at h2 ⊢; simp [h2]
    | _ => exact ⟨st', ρ', hr', hq, hf.fr.mono λi hi => by simpa only [o6, asg] using hi, rfl⟩
  | loop b ih =>
    intro cx hP Q st h ρ a w hr;have fl : ∀ {e : Exit}, e ≠ .normal -> kS b e = true -> kS (.loop b) e = true /\ ∀ i, o6 (.loop b) e i = false -> (ends none b = true -> iE none b i = false) /\ o6 b e i = false := by
      intro e hne h2;refine ⟨?_, λi hi => ?_⟩
      · cases e <;> simp only [kS, ends] at h2 ⊢
        · exact absurd rfl hne
        · simp [h2]
      · cases e <;> simp only [o6, iE, asg] at hi ⊢
        · exact absurd rfl hne
        · simp only [Bool.or_eq_false_iff] at hi
          exact ⟨λh => by simpa [h] using hi.1, hi.2⟩
        all_goals exact ⟨λ_ => AB7 hi, hi⟩
    simp only [sx] at h;split at h
    · rename_i n hl
      have key : ∀ (n : Nat) (st1 : St) (ρ : Nat -> Option Loc) (a : Act) (w : World), Rel cx nt ρ st1 a w -> (st1 = st \/ ends none b = true) -> Fr (iE none b) st st1 -> unr bS (sx bS P E I H nt b) Q n st1 -> EL cx.P b (sV cx nt λe st' => Q e st' /\ FrE (.loop b) e st st') a w := by
        intro n
        induction n with
        | zero => intro st1 ρ a w hr _ hf h; exact h.elim
        | succ n ihn =>
          intro st1 ρ a w hr hor hf h;refine EL.round (wp_mono (ih cx hP _ st1 h ρ a w hr) ?_);rintro e a2 w2 ⟨st2, ρ2, hr2, hq2, hf2⟩;by_cases he : e = .normal
          · subst he
            exact ihn st2 ρ2 a2 w2 hr2 (.inr hf2.ok) (hf.trans hf2.fr) hq2
          · obtain ⟨g1, g2⟩ := fl he hf2.ok
            have hq2' : Q e st2 := by cases e <;> first | exact absurd rfl he | exact hq2
            have hfr : Fr (o6 (.loop b) e) st st2 := by
              rcases hor with rfl | hor
              · exact hf2.fr.mono λi hi => (g2 i hi).2
              · exact (hf.mono λi hi => (g2 i hi).1 hor).trans (hf2.fr.mono λi hi => (g2 i hi).2)
            have hp : sV cx nt (λe st' => Q e st' /\ FrE (.loop b) e st st') e a2 w2 := ⟨st2, ρ2, hr2, hq2', hfr, g1⟩
            cases e <;> first | exact absurd rfl he | exact hp
      exact (key n st ρ a w hr (.inl rfl) (Fr.refl _ _) h).wp
    · split at h
      · rename_i its hl
        split at h
        · rename_i hok
          obtain ⟨hok, hnn⟩ := (ac _ _).mp hok;obtain ⟨y0, hloop, hy0⟩ := O6 (QM hok) h;have hr1 := A6T (its := its) hr;obtain ⟨ρ1, hr2⟩ := AJE (A := iE none b) hr hr1 (λi _ => rfl) BEJ hok hy0;have key := hloop (λy => ∀ ρ' a' w', Rel (LK cx its st ρ w) nt ρ' (CS its (iE none b) st y) a' w' -> EL cx.P b (sV cx nt λe st' => Q e st' /\ FrE (.loop b) e st st') a' w') (by
            intro y hb ρ' a' w' hr';refine EL.round (wp_mono (ih (LK cx its st ρ w) hP _ _ hb ρ' a' w' hr') ?_);rintro e a2 w2 ⟨st2, ρ2, hr2, hq2, hf2⟩;by_cases he : e = .normal
            · subst he
              obtain ⟨hf1, hk⟩ := hf2.fr.BHF (D := iE none b) λi hi => ⟨hi, hi⟩
              obtain ⟨hok2, y2, hX, hy2⟩ := KK hq2;obtain ⟨ρ3, hr3⟩ := AJE (A := iE none b) hr hr2 (λi hi => hf1.s i hi) hk hok2 hy2;exact hX ρ3 a2 w2 hr3
            · obtain ⟨g1, g2⟩ := fl he hf2.ok
              by_cases hn : ends none b = true
              · obtain ⟨hf1, hk⟩ := hf2.fr.BHF (D := o6 (.loop b) e) λi hi => ⟨(g2 i hi).1 hn, (g2 i hi).2⟩
                have := O3 he hq2;have hp : sV cx nt (λe st' => Q e st' /\ FrE (.loop b) e st st') e a2 w2 := ⟨_, ρ2, AN7 hr hr2 hk, this, hf1, g1⟩
                cases e <;> first | exact absurd rfl he | exact hp
              · exact absurd hnn hn)
          exact (key ρ1 a w hr2).wp
        · exact h.elim
      · exact h.elim
  | exit id => exact λcx hP Q st h ρ a w hr => wp_exit ⟨st, ρ, hr, h, Fr.refl _ _, by simp [kS, ends]⟩
  | ret => exact λcx hP Q st h ρ a w hr => wp_ret ⟨st, ρ, hr, h, Fr.refl _ _, rfl⟩
  | rangeFunc _ _ _ _ => exact λcx hP Q st h => h.elim
  | scope b ih =>
    intro cx hP Q st h ρ a w hr;refine wp_scope_straight (wp_mono (ih cx hP _ st h ρ a w hr) ?_);rintro e a' w' ⟨st', ρ', hr', hq, hf⟩;have h2 := hf.ok;cases e with
    | goto l => exact hq.elim
    | normal => exact ⟨st', ρ', hr', hq, hf.fr.mono λi hi => by simpa only [o6, iE] using hi, by simpa only [kS, ends] using h2⟩
    | exit id => exact ⟨st', ρ', hr', hq, hf.fr.mono λi hi => by simpa only [o6, iE] using hi, by simpa only [kS, ends] using h2⟩
    | _ => exact ⟨st', ρ', hr', hq, hf.fr.mono λi hi => by simpa only [o6, asg] using hi, rfl⟩
  | goto _ => exact λcx hP Q st h => h.elim
  | refuse _ => exact λcx hP Q st h => h.elim
end
section
variable (C : gZ) (P : Program) (E : Env) (Hs : FuncId -> Hint)
def BPS (rs : Array ResultVar) (K : KN) (e : Exit) (st : St) : Prop := match lY e, A81 P rs st with
  | true, some (d, σ', n') => K d σ' n'
  | _, _ => C.bad 601
def AE3 : Nat -> Inl
  | 0 => λ_ _ _ _ _ => C.bad 602
  | k + 1 => λfid args σ n K => match P.funcs[fid]? with
    | some fn => match fn.body, decide (args.length <= fn.ntmps) with
      | some c, true => sx C P E (AE3 k) (Hs fid) fn.ntmps c (BPS C P fn.results K) (R1 args σ n)
      | _, _ => C.bad 603
    | none => C.bad 604
def BP9 (rs : Array ResultVar) (R : T -> Prop) (e : Exit) (st : St) : Prop := match lY e, BMT P rs st with
  | true, some r => R r
  | _, _ => C.bad 701
def BP7 (rs : Array ResultVar) (R : List (List T) -> Prop) (e : Exit) (st : St) : Prop := match lY e, BMU P rs st with
  | true, some r => R r
  | _, _ => C.bad 702
end
section
variable {P : Program} {E : Env} {Hs : FuncId -> Hint}
def mL {e : Exit} (h : lY e = true) : e = .normal \/ e = .ret := by cases e <;> simp [lY] at h <;> simp
def nZ (hn : cI P = true) {f : FuncId} {fn : Func} (hf : P.funcs[f]? = some fn) : (fn.name == "runtime.NumGoroutine") = false := by
  have := Array.all_eq_true_iff_forall_mem.1 hn fn (Array.mem_of_getElem? hf);simp_all
def q8 (hE : aQ P E) (hm : P.follows .mixedOrders = true) (hn : cI P = true) (hh : fH E) : ∀ k, AJC P (AE3 bS P E Hs k) := by
  intro k
  induction k with
  | zero => intro cx ρ σ n w fid args vs K hP hG hI ha h; exact h.elim
  | succ k ih =>
    intro cx ρ σ n w fid args vs K hP hG hI ha h;simp only [AE3] at h;split at h
    · rename_i fn hf
      split at h
      · rename_i c hb hlen
        have hlen : args.length <= fn.ntmps := of_decide_eq_true hlen;refine ⟨⟨fn, hf, nZ hn hf, by simp [hb]⟩, ?_⟩;subst hP
        let cx' : Cx := ⟨cx.P, cx.own, cx.w0, ρ, σ, w, cx.arg⟩
        have hI' : Inv cx' ρ σ n w := ⟨hI.boxes, hI.inj, hI.new, hI.tC, hI.below, hI.kT, hI.low⟩
        refine calls_of_wp hf hb ?_;have hr : Rel cx' fn.ntmps ρ (R1 args σ n) { tmps := vs ++ Array.replicate (fn.ntmps - vs.size) undef, defers := [] } w := HB hI' (bO.refl _ _ _ _) hG ha hlen;refine wp_mono (vD hE hm hh ih c cx' rfl _ (R1 args σ n) h _ _ w hr) ?_;rintro e a' w' ⟨st', ρ', hr', hq, hf'⟩;unfold BPS at hq;split at hq
        · rename_i d σ' n' he hres
          obtain ⟨v, h1, h2, h3⟩ := AGK hr' hres;obtain ⟨rfl, rfl⟩ := h3;have hI2 : Inv cx ρ' st'.σ st'.n w' := ⟨hr'.inv.boxes, hr'.inv.inj, hr'.inv.new, hr'.inv.tC, hr'.inv.below, hr'.inv.kT, hr'.inv.low⟩
          have hk2 : bO cx ρ ρ' σ st'.σ w w' := ⟨hr'.keeps.cell, hr'.keeps.size, hr'.keeps.own, hr'.keeps.loc, hr'.keeps.shape, hr'.keeps.ro⟩
          rcases mL he with rfl | rfl
          · exact ⟨hr'.defers, v, h1, v, ρ', d, st'.σ, st'.n, rfl, hI2, hk2, h2, hf'.fr.b, hq⟩
          · exact ⟨hr'.defers, v, h1, v, ρ', d, st'.σ, st'.n, rfl, hI2, hk2, h2, hf'.fr.b, hq⟩
        · exact hq.elim
      · exact h.elim
    · exact h.elim
def dV (C : gZ) (P : Program) (E : Env) (Hs : FuncId -> Hint) (k : Nat) (f : FuncId) (args : List T) (R : T -> Prop) : Prop := match P.funcs[f]? with
  | some fn => match fn.body, decide (args.length <= fn.ntmps) with
    | some c, true => sx C P E (AE3 C P E Hs k) (Hs f) fn.ntmps c (BP9 C P fn.results R) (st0 args)
    | _, _ => C.bad 703
  | none => C.bad 704
def R6 (C : gZ) (P : Program) (E : Env) (Hs : FuncId -> Hint) (k : Nat) (f : FuncId) (args : List T) (R : List (List T) -> Prop) : Prop := match P.funcs[f]? with
  | some fn => match fn.body, decide (args.length <= fn.ntmps) with
    | some c, true => sx C P E (AE3 C P E Hs k) (Hs f) fn.ntmps c (BP7 C P fn.results R) (st0 args)
    | _, _ => C.bad 703
  | none => C.bad 704
def BP8 (C : gZ) (P : Program) (c : Nat) (rs : Array ResultVar) (R : T -> Prop) (e : Exit) (st : St) : Prop := match lY e, BMV P c rs st with
  | true, some cs => R (.agg cs)
  | _, _ => C.bad 705
def AAH (C : gZ) (P : Program) (E : Env) (Hs : FuncId -> Hint) (k : Nat) (c : Nat) (f : FuncId) (args : List T) (R : T -> Prop) : Prop := match P.funcs[f]? with
  | some fn => match fn.body, decide (args.length <= fn.ntmps) with
    | some cd, true => sx C P E (AE3 C P E Hs k) (Hs f) fn.ntmps cd (BP8 C P c fn.results R) (st0 args)
    | _, _ => C.bad 703
  | none => C.bad 704
def AVL : D -> Bool
  | .p t => t.flat
  | _ => false
def AAK : D -> T
  | .p t => t
  | _ => .v undef
def BEW (C : gZ) (σ : Nat -> Option bE) (d : D) (K : T -> Prop) : Prop := match d with
  | .p t => match fP t with
    | some (_, []) => K (.sl false [])
    | _ => C.zX t.flat (K t)
  | .own k => match σ k with
    | some (.arr false _ rows) => C.zX (rows.all λr => r.all T.flat) (K (.sl false rows))
    | _ => C.bad 801
  | .map k => match σ k with
    | some (.map false es) => C.zX (es.all λe => AVL e.2) (K (.mp (es.map λe => (e.1, AAK e.2))))
    | _ => C.bad 802
  | _ => C.bad 803
def A67 (C : gZ) (σ : Nat -> Option bE) : List D -> (List T -> Prop) -> Prop
  | [], K => K []
  | d :: l, K => BEW C σ d λt => A67 C σ l λts => K (t :: ts)
def BM3 (C : gZ) (P : Program) (rs : Array ResultVar) (R : T -> Prop) (e : Exit) (st : St) : Prop := match lY e, xC P st rs.toList with
  | true, some [d] => BEW C st.σ d R
  | true, some ds => A67 C st.σ ds λts => R (.bX ts)
  | _, _ => C.bad 804
def wS (C : gZ) (P : Program) (E : Env) (Hs : FuncId -> Hint) (k : Nat) (f : FuncId) (args : List T) (R : T -> Prop) : Prop := match P.funcs[f]? with
  | some fn => match fn.body, decide (args.length <= fn.ntmps) with
    | some c, true => sx C P E (AE3 C P E Hs k) (Hs f) fn.ntmps c (BM3 C P fn.results R) (st0 args)
    | _, _ => C.bad 703
  | none => C.bad 704
variable {cx:Cx}{nt:Nat}{ρ:Nat -> Option Loc}
def APT {a : Act} {w : World} (hr : Rel cx nt ρ st a w) (hn : cx.arg = []) {d : D} {v : Value} (hd : Rd w (Own cx ρ st.σ) ρ d v) {K : T -> Prop} (h : BEW bS st.σ d K) : ∃ t, K t /\ cO w (λb => b < cx.w0.heap.size) t v := by
  unfold BEW at h;split at h
  · cases hd with
    | p _ _ hd =>
    split at h
    · rename_i f hrow
      refine ⟨_, h, ?_⟩;have := lI hd hrow;cases this with
      | cS _ a cap hf hn => exact .cS false a cap (by simp) hn
      | sl _ _ sz bJ off cap fc k1 k2 k3 k4 k5 k6 k7 k8 k9 => exact .cS false _ cap (by simp) (by simp)
    · obtain ⟨hf, h⟩ := h
      exact ⟨_, h, hd.I5 hf⟩
  · rename_i k
    split at h
    · rename_i z rows hσ
      obtain ⟨hf, h⟩ := h;refine ⟨_, h, ?_⟩;have this : cO w (λ_ => False) (.sl false rows) v := DS (own0 := λ_ => False) (τ := st.σ) hr.inv (λb hb => hb.elim) (λ_ _ h => h) (λ_ _ _ _ _ _ h => h) 1 hd (by simp [iG, hσ]);have flatc : ∀ i j (hi : i < rows.length) (hj : j < rows[i].length), rows[i][j].flat = true := λi j hi hj => List.all_eq_true.1 (List.all_eq_true.1 hf _ (aj hi)) _ (aj hj);cases hd with
      | own _ l hl hL h1 h2 =>
        have hm := hr.inv.AFJ hn k _ l hσ hl hL rfl;generalize hvv : (Value.slice (some ⟨l.bJ, 0, none⟩) l.L l.C) = v at this;cases this with
        | cS _ a cap hf hn => exact .cS false a cap (by simp) hn
        | sl _ _ sz bJ off cap f k1 k2 k3 k4 k5 k6 k7 k8 k9 =>
          have e : l.bJ = bJ := by
            simp_all
          exact .sl false rows sz bJ off cap f k1 k2 k3 (by show ¬ bJ < _; omega) k5 k6 k7 k8 (λi j hi hj => (k9 i j hi hj).I5 (flatc i j hi hj))
      | dC _ l a hl hL =>
        generalize hvv : (Value.slice a 0 0) = v at this;cases this with
        | cS _ a cap hf hn => exact .cS false a cap (by simp) hn
        | sl _ _ sz bJ off cap f k1 k2 k3 k4 k5 k6 k7 k8 k9 =>
          have e : rows = [] := by
            injection hvv with e1 e2 e3
            exact List.eq_nil_of_length_eq_zero e2.symm
          subst e;exact .cS false _ cap (by simp) (by simp)
    · exact h.elim
  · rename_i k
    split at h
    · rename_i es hσ
      obtain ⟨hf, h⟩ := h;refine ⟨_, h, ?_⟩;obtain ⟨l', ents, hl', hL, ho, hE⟩ := hr.inv.QA hσ;cases hd with
      | map _ l hl =>
      have hll : l' = l := by rw [hl] at hl'; exact (Option.some.inj hl').symm
      subst hll;have hm := hr.inv.AFJ hn k _ l' hσ hl hL rfl;have hlen : (es.map λe => (e.1, AAK e.2)).length = es.length := by simp
      have hex : ∀ i (hi : i < es.length), ∃ e, ents[i]? = some e /\ e.key = es[i].1 /\ e.born = i /\ cO w (λb => b < cx.w0.heap.size) (AAK es[i].2) e.val := by
        intro i hi;obtain ⟨e, a1, a2, a3, a4⟩ := hE.2 i hi;have hp := List.all_eq_true.1 hf es[i] (aj hi);refine ⟨e, by rw [<- Array.getElem?_toList]; exact a1, a2, by omega, ?_⟩;generalize es[i].2 = d at hp a4;cases d with
        | p t =>
          cases a4 with
          | p _ _ a4 => exact a4.I5 hp
        | _ => cases hp
      refine .mp _ l'.bJ ents (λi => ents.getD i ⟨undef, undef, 0⟩) (by show ¬ l'.bJ < _; omega) ((hr.inv.new k l' hl).2 hL).1 (by rw [hlen]; exact ho) (by rw [hlen]; simpa using hE.1) (λi hi => ?_) (λi hi => ?_)
      · obtain ⟨e, a1, a2, a3, _⟩ := hex i (by omega)
        simp_all
      · obtain ⟨e, a1, _, _, a4⟩ := hex i (by omega)
        simp_all
    · exact h.elim
  · exact h.elim
def AFQ {cx : Cx} {nt : Nat} {ρ : Nat -> Option Loc} {st : St} {a : Act} {w : World} (hr : Rel cx nt ρ st a w) (hn : cx.arg = []) : ∀ {ds : List D} {vs : List Value} {K : List T -> Prop}, dF (Rd w (Own cx ρ st.σ) ρ) ds vs.toArray -> A67 bS st.σ ds K -> ∃ ts, K ts /\ dF (cO w (λb => b < cx.w0.heap.size)) ts vs.toArray
  | [], vs, K, ha, h => by
    have : vs = [] := by simpa using ha.1
    subst this;exact ⟨[], h, dF.nil⟩
  | d :: ds, vs, K, ha, h => by
    cases vs with
    | nil => have := ha.1; simp at this
    | cons v vs =>
      have h0 := ha.2 0 (by simp);have ht : dF (Rd w (Own cx ρ st.σ) ρ) ds vs.toArray := ⟨by have := ha.1; simp at this ⊢; exact this, λi hi => by
        have := ha.2 (i + 1) (by simp; omega);simpa using this⟩
      obtain ⟨t, k1, k2⟩ := APT hr hn (by simpa using h0) h;obtain ⟨ts, k3, k4⟩ := AFQ hr hn ht k1;refine ⟨t :: ts, k3, ?_⟩;have := (dF.one (R := cO w (λb => b < cx.w0.heap.size)) k2).append k4;simp_all
def A90 {a : Act} {w : World} (hr : Rel cx nt ρ st a w) (hn : cx.arg = []) {fn : Func} {R : T -> Prop} {e : Exit} (h : BM3 bS cx.P fn.results R e st) :
    lY e = true /\ ∃ v t, (results fn a.tmps).run cx.P w = .ok v w /\ R t /\ cO w (λb => b < cx.w0.heap.size) t v := by
  have run : ∀ {ds : List D}, xC cx.P st fn.results.toList = some ds -> ∃ vs : Array Value, (fn.results.mapM (zY a.tmps)).run cx.P w = .ok vs w /\ dF (Rd w (Own cx ρ st.σ) ρ) ds vs := by
    intro ds hds;obtain ⟨vs, h1, h2⟩ := oT hr hds;refine ⟨vs.toArray, ?_, h2⟩;rw [Array.mapM_eq_mapM_toList, Sem.run_map, h1];rfl
  unfold BM3 at h;split at h
  · rename_i d he hd
    refine ⟨he, ?_⟩;obtain ⟨vs, h1, h2⟩ := run hd;have hs : vs.size = 1 := by simpa using h2.1
    have h3 := h2.2 0 (by simp);have h4 : vs.getD 0 undef = vs[0] := by simp [Array.getD, hs]
    rw [h4] at h3;obtain ⟨t, k1, k2⟩ := APT hr hn h3 h;refine ⟨vs[0], t, ?_, k1, k2⟩;rw [iC, Sem.run_bind, h1];simp [hs]
  · rename_i ds hne he hds
    refine ⟨he, ?_⟩;obtain ⟨vs, h1, h2⟩ := run hds;have hs : ¬ vs.size = 1 := by
      intro hs;rw [h2.1] at hs;obtain ⟨d, rfl⟩ := List.length_eq_one_iff.1 hs;simp_all
    obtain ⟨ts, k1, k2⟩ := AFQ hr hn (vs := vs.toList) (by simpa using h2) h;refine ⟨.tuple vs, .bX ts, ?_, k1, .bX ts vs (by simpa using k2.1) (by simpa using k2.2)⟩;rw [iC, Sem.run_bind, h1];simp [hs]
  · exact h.elim
variable {g:List T -> Option T}
def AFP (hE : aQ P E) (hm : P.follows .mixedOrders = true) (hn : cI P = true) (hh : fH E) (k : Nat) {f : FuncId} (hex : ∃ fn c, P.funcs[f]? = some fn /\ fn.body = some c)
    (h : ∀ args r, g args = some r -> (∀ t ∈ args, Bd t) -> wS bS P E Hs k f args (λx => x = r)) : kR P f g := by
  obtain ⟨fn, c, hf, hb⟩ := hex;refine ⟨⟨fn, hf, nZ hn hf, by simp [hb]⟩, λw own args vs r hG hown ha hg => ?_⟩;have hbd : ∀ t ∈ args, Bd t := by
    intro t ht;obtain ⟨i, hi, rfl⟩ := List.mem_iff_getElem.1 ht;exact (ha.2 i hi).bd
  have hs := h args r hg hbd;simp only [wS, hf, hb] at hs;split at hs
  · rename_i c' he hlen
    cases he;have hlen : args.length <= fn.ntmps := of_decide_eq_true hlen
    let cx : Cx := SQ P own w
    refine calls_of_wp hf hb ?_;refine wp_mono (vD hE hm hh (q8 hE hm hn hh k) c cx rfl _ (st0 args) hs _ _ w (MM (P := P) (nt := fn.ntmps) hG hown ha hlen)) ?_;rintro e a' w' ⟨st', ρ', hr', hq, _⟩;obtain ⟨he, v, t, h1, rfl, h2⟩ := A90 hr' rfl hq;rcases mL he with rfl | rfl
    · exact ⟨hr'.defers, v, h1, v, rfl, h2, hr'.inv.below.toB⟩
    · exact ⟨hr'.defers, v, h1, v, rfl, h2, hr'.inv.below.toB⟩
  · exact hs.elim
def I8 (hE : aQ P E) (hm : P.follows .mixedOrders = true) (hn : cI P = true) (hh : fH E) (k : Nat) {f : FuncId} (hex : ∃ fn c, P.funcs[f]? = some fn /\ fn.body = some c)
    (h : ∀ args r, g args = some r -> (∀ t ∈ args, Bd t) -> dV bS P E Hs k f args (λx => x = r)) : aM P f g := by
  obtain ⟨fn, c, hf, hb⟩ := hex;refine ⟨⟨fn, hf, nZ hn hf, by simp [hb]⟩, λw own args vs r hG hown ha hg => ?_⟩;have hbd : ∀ t ∈ args, Bd t := by
    intro t ht;obtain ⟨i, hi, rfl⟩ := List.mem_iff_getElem.1 ht;exact (ha.2 i hi).bd
  have hs := h args r hg hbd;simp only [dV, hf, hb] at hs;split at hs
  · rename_i c' he hlen
    cases he;have hlen : args.length <= fn.ntmps := of_decide_eq_true hlen
    let cx : Cx := SQ P own w
    refine calls_of_wp hf hb ?_;refine wp_mono (vD hE hm hh (q8 hE hm hn hh k) c cx rfl _ (st0 args) hs _ _ w (MM (P := P) (nt := fn.ntmps) hG hown ha hlen)) ?_;rintro e a' w' ⟨st', ρ', hr', hq, _⟩;unfold BP9 at hq;split at hq
    · rename_i r' he hres
      subst hq;obtain ⟨v, h1, h2⟩ := A8Z hr' hres;rcases mL he with rfl | rfl
      · exact ⟨hr'.defers, v, h1, v, rfl, h2, hr'.inv.below.toB⟩
      · exact ⟨hr'.defers, v, h1, v, rfl, h2, hr'.inv.below.toB⟩
    · exact hq.elim
  · exact hs.elim
def PM (hE : aQ P E) (hm : P.follows .mixedOrders = true) (hn : cI P = true) (hh : fH E) (k : Nat) {f : FuncId} {g : List T -> Option (List (List T))} (hex : ∃ fn c, P.funcs[f]? = some fn /\ fn.body = some c)
    (h : ∀ args r, g args = some r -> (∀ t ∈ args, Bd t) -> R6 bS P E Hs k f args (λx => x = r)) : fE P f g := by
  obtain ⟨fn, c, hf, hb⟩ := hex;refine ⟨⟨fn, hf, nZ hn hf, by simp [hb]⟩, λw own args vs r hG hown ha hg => ?_⟩;have hbd : ∀ t ∈ args, Bd t := by
    intro t ht;obtain ⟨i, hi, rfl⟩ := List.mem_iff_getElem.1 ht;exact (ha.2 i hi).bd
  have hs := h args r hg hbd;simp only [R6, hf, hb] at hs;split at hs
  · rename_i c' he hlen
    cases he;have hlen : args.length <= fn.ntmps := of_decide_eq_true hlen
    let cx : Cx := SQ P own w
    refine calls_of_wp hf hb ?_;refine wp_mono (vD hE hm hh (q8 hE hm hn hh k) c cx rfl _ (st0 args) hs _ _ w (MM (P := P) (nt := fn.ntmps) hG hown ha hlen)) ?_;rintro e a' w' ⟨st', ρ', hr', hq, _⟩;unfold BP7 at hq;split at hq
    · rename_i r' he hres
      subst hq;obtain ⟨v, h1, h2, h3⟩ := A80 hr' rfl hres;rcases mL he with rfl | rfl
      · exact ⟨hr'.defers, v, h1, v, rfl, hr'.inv.below.toB, h2, h3⟩
      · exact ⟨hr'.defers, v, h1, v, rfl, hr'.inv.below.toB, h2, h3⟩
    · exact hq.elim
  · exact hs.elim
def AW3 (hE : aQ P E) (hm : P.follows .mixedOrders = true) (hn : cI P = true) (hh : fH E) (k : Nat) {f : FuncId} {ci : Nat} (hex : ∃ fn c, P.funcs[f]? = some fn /\ fn.body = some c)
    (h : ∀ args r, g args = some r -> (∀ t ∈ args, Bd t) -> AAH bS P E Hs k ci f args (λx => x = r)) : N4 P f ci g := by
  obtain ⟨fn, c, hf, hb⟩ := hex;refine ⟨⟨fn, hf, nZ hn hf, by simp [hb]⟩, λw own args vs r hG hown ha hg => ?_⟩;have hbd : ∀ t ∈ args, Bd t := by
    intro t ht;obtain ⟨i, hi, rfl⟩ := List.mem_iff_getElem.1 ht;exact (ha.2 i hi).bd
  have hs := h args (.agg r) hg hbd;simp only [AAH, hf, hb] at hs;split at hs
  · rename_i c' he hlen
    cases he;have hlen : args.length <= fn.ntmps := of_decide_eq_true hlen
    let cx : Cx := SQ P own w
    refine calls_of_wp hf hb ?_;refine wp_mono (vD hE hm hh (q8 hE hm hn hh k) c cx rfl _ (st0 args) hs _ _ w (MM (P := P) (nt := fn.ntmps) hG hown ha hlen)) ?_;rintro e a' w' ⟨st', ρ', hr', hq, _⟩;unfold BP8 at hq;split at hq
    · rename_i r' he hres
      cases hq;obtain ⟨vc, h1, h2, h3⟩ := A82 hr' rfl hres;rcases mL he with rfl | rfl
      · exact ⟨hr'.defers, _, h1, vc, rfl, hr'.inv.below.toB, h2, h3⟩
      · exact ⟨hr'.defers, _, h1, vc, rfl, hr'.inv.below.toB, h2, h3⟩
    · exact hq.elim
  · exact hs.elim
def APV : Fn -> Bool
  | .heap _ => false
  | _ => true
def aL : ∀ {l : List (FuncId × Fn)}, l.all (λx => APV x.2) = true -> fH (Env.of l)
  | [], _, f, g, h => by simp [Env.of] at h
  | (k, x) :: l, hl, f, g, h => by
    simp only [List.all_cons, ac] at hl;simp only [Env.of] at h;split at h
    · cases h; simp [APV] at hl
    · exact aL hl.2 f g h
end
end Go.Pv
