/-
  The symbolic executor, part g: code, and functions.
-/
import Derived.Test.YtepoplfbgaoggaaGreatDoorOnekf
set_option linter.defProp false
set_option linter.unusedSimpArgs false
namespace Go.Pv
open Go Go.RowKit
inductive LH where
  | none
  | inv (its : List It)
  | alt (a b : List It)
  | OD (n : Nat)
  | alts (l : List (List It))
structure Hint where
  loop : Nat -> LH
  join : Nat -> Nat -> Option (List It)
  ent : Nat -> Ent
def bH : Hint := ⟨λ_ => .none, λ_ _ => none, λ_ => none⟩
def xO : Code -> Option Nat
  | .region id _ _ => some id
  | .seq a b => match xO a with
    | some i => some i
    | none => xO b
  | .cond _ a b => match xO a with
    | some i => some i
    | none => xO b
  | .block _ b => xO b
  | .scope b => xO b
  | .loop b => xO b
  | _ => none
def O7 : Code -> Option Nat
  | .region id _ _ => some id
  | .seq a b => match O7 b with
    | some i => some i
    | none => O7 a
  | .cond _ a b => match O7 b with
    | some i => some i
    | none => O7 a
  | .block _ b => O7 b
  | .scope b => O7 b
  | .loop b => O7 b
  | _ => none
def AIS (i : Nat) : List Oper -> Bool
  | [] => false
  | o :: l => (match o.dst with
    | some t => t == i
    | none => false) || AIS i l
def asg : Code -> Nat -> Bool
  | .region _ ops _, i => AIS i ops.toList
  | .seq a b, i => asg a i || asg b i
  | .cond _ a b, i => asg a i || asg b i
  | .block _ b, i => asg b i
  | .scope b, i => asg b i
  | .loop b, i => asg b i
  | _, _ => false
def ends (t : Option Nat) : Code -> Bool
  | .skip => t.isNone
  | .label _ => t.isNone
  | .region _ _ _ => t.isNone
  | .seq a b => (ends none a && ends t b) || (t.isSome && ends t a)
  | .cond _ a b => ends t a || ends t b
  | .block id b => match t with
    | none => ends none b || ends (some id) b
    | some j => ends (some j) b
  | .loop b => t.isSome && ends t b
  | .scope b => ends t b
  | .exit id => match t with
    | none => false
    | some j => j == id
  | _ => false
def jE (t : Option Nat) : Code -> Nat -> Bool
  | .region _ ops _, i => AIS i ops.toList
  | .seq a b, i => (ends none a && ends t b && (jE none a i || jE t b i)) || (t.isSome && ends t a && jE t a i)
  | .cond _ a b, i => (ends t a && jE t a i) || (ends t b && jE t b i)
  | .block id b, i => match t with
    | none => (ends none b && jE none b i) || (ends (some id) b && jE (some id) b i)
    | some j => jE (some j) b i
  | .loop b, i => (ends none b && jE none b i) || jE t b i
  | .scope b, i => jE t b i
  | _, _ => false
def rW (c : Code) : Exit -> Nat -> Bool
  | .normal => jE none c
  | .exit id => jE (some id) c
  | _ => asg c
def lQ (c : Code) : Exit -> Bool
  | .normal => ends none c
  | .exit id => ends (some id) c
  | _ => true
def TK : ∀ {l : List Oper} {o : Oper} {t : Tmp}, o ∈ l -> o.dst = some t -> AIS t l = true
  | [], _, _, h, _ => by cases h
  | a :: l, o, t, h, ht => by
    simp only [AIS, Bool.or_eq_true];rcases List.mem_cons.1 h with rfl | h
    · simp_all
    · exact .inr (TK h ht)
def BOK (H : Hint) (a : Code) : Option (List It) := match xO a, O7 a with
  | some i, some j => H.join i j
  | _, _ => none
def fits (st : St) : List It -> Bool
  | [] => true
  | .arr k _ _ :: l => (match st.σ k with
    | some (.arr _ _ _) => true
    | _ => false) && fits st l
  | .own t _ _ :: l => (match st.s t with
    | .own _ => true
    | .p t => (match gP t with
      | some (true, []) => true
      | _ => false)
    | _ => false) && fits st l
  | .box k _ :: l => (match st.σ k with
    | some (.rows _ _) => true
    | _ => false) && fits st l
  | .map k _ _ _ :: l => (match st.σ k with
    | some (.map _ _) => true
    | _ => false) && fits st l
  | .cF k :: l => (match st.σ k with
    | some (.cF _ _ _ _) => true
    | _ => false) && fits st l
  | _ :: l => fits st l
def BP5 (h : LH) (st : St) : Option (List It) := match h with
  | .inv its => some its
  | .alt a b => match fits st a with
    | true => some a
    | false => some b
  | .alts l => l.find? λits => fits st its
  | _ => none
def BON (H : Hint) (b : Code) : LH := match xO b with
  | some i => H.loop i
  | none => .none
section
variable (C : mM) (P : Program) (E : Env) (I : Inl) (H : Hint) (nt : Nat)
def BBL (E : Env) (ops : Array Oper) : Option Nat := ((List.range ops.size).filter λi => match ops[i]? with
  | some o => match o.op with
    | .call c => match c.callee with
      | .value (.tmp _) => true
      | .value (.func f) => (E f).isNone
      | _ => false
    | _ => false
  | none => false).getLast?
def BLW (E : Env) (ops : Array Oper) : Option Nat := match BBL E ops with
  | some t => match AEM E ops t with
    | true => some t
    | false => none
  | none => none
def BSQ (id : Nat) (ops : Array Oper) (draw : Bool) (st : St) (K : St -> Prop) : Prop :=
  match draw with
  | false => evK C P E nt I (H.ent id) false ops ops.toList st K
  | true => match BLW E ops with
   | some t => G9 false C P E nt ops st.n (List.range t) (p9 ops st) λst1 => evK C P E nt I none false ops (ops.toList.drop t) st1 K
   | none => match QS E ops with
    | true => evK C P E nt I none true ops ops.toList st K
    | false => match AUR E ops st with
      | some (M, base) => G9 M C P E nt ops base (APR M E ops) (p9 ops st) K
      | none => C.bad 510
def AZW (its : List It) (st₀ : St) (X : OG.den its -> Prop) (Q : Exit -> St -> Prop) : Exit -> St -> Prop
  | .normal, st => match AAA its st₀ st with
    | true => A8O C st₀ st its X
    | false => C.bad 502
  | e, st => Q e (unS its st₀ st)
def unr (F : (Exit -> St -> Prop) -> St -> Prop) (Q : Exit -> St -> Prop) : Nat -> St -> Prop
  | 0, _ => C.bad 503
  | n + 1, st => F (λe st' => match e with
    | .normal => unr F Q n st'
    | e => Q e st') st
def BIO (c : Operand) (b : Bool) (st : St) : St := match c with
  | .tmp t => match st.s t with
    | .p (.v (.bool _)) => ⟨cJ st.s t (.p (.v (.bool b))), st.σ, st.n⟩
    | _ => st
  | _ => st
def sx : Code -> (Exit -> St -> Prop) -> St -> Prop
  | .skip, Q, st => Q .normal st
  | .label _, Q, st => Q .normal st
  | .region id ops draw, Q, st => BSQ C P E I H nt id ops draw st (Q .normal)
  | .seq a b, Q, st => match BOK H a with
    | none => sx a (BFA (sx b Q) Q) st
    | some its => C.join (OG.den its) (λX => sx a (AZW C its st X Q) (YP its st)) λy => sx b Q (unS its st (GF its (jE none a) st y))
  | .cond c t e, Q, st => match ev (cN true st.s) c with
    | .p (.v (.bool b)) => aE b (sx t Q (BIO c true st)) (sx e Q (BIO c false st))
    | _ => C.bad 504
  | .block id b, Q, st => sx b (S7 id Q) st
  | .loop b, Q, st => match BON H b with
    | .OD n => unr C (sx b) Q n st
    | h => match BP5 h st with
      | some its => match AAA its st (YP its st) && ends none b with
        | true => A8O C st (YP its st) its λy => C.loop (OG.den its) (λX y => sx b (AZW C its st X Q) (GF its (jE none b) st y)) y
        | false => C.bad 505
      | none => C.bad 506
  | .exit id, Q, st => Q (.exit id) st
  | .ret, Q, st => Q .ret st
  | .scope b, Q, st => sx b (AVM Q) st
  | _, _, _ => C.bad 507
end
variable {st:St}
def AVE {c : Operand} {b : Bool} (h : ev (cN true st.s) c = .p (.v (.bool b))) : BIO c b st = st := by
  unfold BIO;split
  · rename_i t
    split
    · rename_i b' hb
      have : b' = b := by
        simp only [ev, cN, hb, strip] at h;cases h; rfl
      subst this;have : cJ st.s t (.p (.v (.bool b'))) = st.s := by
        funext i
        by_cases e : i = t
        · simp_all
        · rw [bU _ _ e]
      rw [this]
    · rfl
  · rfl
section
variable {P : Program} {E : Env} {I : Inl} {H : Hint} {nt : Nat}
variable {its:List It}{A:Nat -> Bool}{st₀:St}{y:OG.den its}
def Fr.BLL {B D:Nat -> Bool} (h : Fr B (GF its A st₀ y) st) (hD : ∀ i, D i = false -> A i = false /\ B i = false) : Fr D st₀ (unS its st₀ st) /\ ∀ k x, kept its st₀ k = true -> st₀.σ k = some x -> st.σ k = some (lock x) := by
  have hk : ∀ k x, kept its st₀ k = true -> st₀.σ k = some x -> st.σ k = some (lock x) := by
    intro k x hke hx;obtain ⟨hlt, x0, h0, h1, _⟩ := nB hke;rw [hx] at h0; cases h0;exact h.b.2 k (lock x) (by show k < st₀.n + D2 its; omega) (by simp only [GF, ai hlt, hke, hx, Option.map_some]) h1
  refine ⟨⟨λi hi => ?_, ?_, λk x hlt hx hw => ?_⟩, hk⟩
  · obtain ⟨h1, h2⟩ := hD i hi
    have := h.s i h2;simp only [GF, h1] at this;exact this
  · have := h.b.1
    simp only [GF] at this;show st₀.n <= st.n;omega
  · have hke := I2 (its := its) hlt hx hw
    simp only [unS, hke, hx]
def Fr.BSL (h : Fr A (YP its st₀) st) : Fr A st₀ (unS its st₀ st) /\ ∀ k x, kept its st₀ k = true -> st₀.σ k = some x -> st.σ k = some (lock x) := by
  have hk : ∀ k x, kept its st₀ k = true -> st₀.σ k = some x -> st.σ k = some (lock x) := by
    intro k x hke hx;obtain ⟨hlt, x0, h0, h1, _⟩ := nB hke;rw [hx] at h0; cases h0;exact h.b.2 k (lock x) hlt (by simp only [YP, hke, hx, Option.map_some]) h1
  refine ⟨⟨λi hi => h.s i hi, h.b.1, λk x hlt hx hw => ?_⟩, hk⟩;have hke := I2 (its := its) hlt hx hw;simp only [unS, hke, hx]
def BID : Fr A st₀ (unS its st₀ (GF its A st₀ y)) := by
  refine ⟨λi hi => ?_, ?_, λk x hlt hx hw => ?_⟩
  · simp only [unS, GF, hi]
  · show st₀.n <= st₀.n + D2 its
    omega
  · have hke := I2 (its := its) hlt hx hw
    simp only [unS, hke, hx]
def BIH : ∀ k x, kept its st₀ k = true -> st₀.σ k = some x -> (GF its A st₀ y).σ k = some (lock x) := by
  intro k x hke hx;obtain ⟨hlt, _⟩ := nB hke;simp only [GF, ai hlt, hke, hx, Option.map_some]
def BIP : ∀ k x, kept its st₀ k = true -> st₀.σ k = some x -> (YP its st₀).σ k = some (lock x) := by
  intro k x hke hx;simp only [YP, hke, hx, Option.map_some]
variable {cx:Cx}{ρ:Nat -> Option Loc}
def APE {ρ₀:Nat -> Option Loc} {a₀ a : Act} {w₀ w : World} (hR0 : Rel cx nt ρ₀ st₀ a₀ w₀) (hR : Rel (PU cx its st₀ ρ₀ w₀) nt ρ st a w) (hs : ∀ i, A i = false -> st.s i = st₀.s i)
    (hk : ∀ k x, kept its st₀ k = true -> st₀.σ k = some x -> st.σ k = some (lock x)) (hok : AAA its st₀ st = true) (hy : AUH st₀.n st₀ st its y) : ∃ ρ', Rel (PU cx its st₀ ρ₀ w₀) nt ρ' (GF its A st₀ y) a w := by
  have hdom : ∀ k l, ρ₀ k = some l -> k < st₀.n := λk l hl => (hR0.inv.new k l hl).1;refine BHF hR (λi _ => (hR0.uD i).blw hdom) (λk x hx => ?_) hdom (λk x hx hw => ?_) hs hk hok hy
  · obtain ⟨l, _, hb⟩ := hR0.inv.boxes k x hx
    exact hb.blw hdom
  · change (YP its st₀).σ k = some x at hx
    cases hke : kept its st₀ k with
    | true => rfl
    | false =>
      simp only [YP, hke] at hx;obtain ⟨l, hl, _⟩ := hR0.inv.boxes k x hx;rw [I2 (hdom k l hl) hx hw] at hke;cases hke
variable {X:OG.den its -> Prop}{Q:Exit -> St -> Prop}
def OO (h : AZW cA its st₀ X Q .normal st) : AAA its st₀ st = true /\ ∃ y, X y /\ AUH st₀.n st₀ st its y := by
  simp only [AZW] at h;split at h
  · rename_i hok
    exact ⟨hok, TS h⟩
  · exact h.elim
def TP {e : Exit} (he : e ≠ .normal) (h : AZW cA its st₀ X Q e st) : Q e (unS its st₀ st) := by
  cases e <;> first | exact h | exact absurd rfl he
def AIC {t : Option Nat} : ∀ {c : Code} {i : Nat}, asg c i = false -> jE t c i = false := by
  intro c
  induction c generalizing t with
  | seq a b iha ihb =>
    intro i h;simp only [asg, Bool.or_eq_false_iff] at h;simp only [jE, iha (t := none) h.1, iha (t := t) h.1, ihb (t := t) h.2, Bool.or_false, Bool.and_false]
  | cond c a b iha ihb =>
    intro i h;simp only [asg, Bool.or_eq_false_iff] at h;simp only [jE, iha (t := t) h.1, ihb (t := t) h.2, Bool.or_false, Bool.and_false]
  | block id b ih =>
    intro i h;cases t with
    | none => simp only [jE, ih (t := none) h, ih (t := some id) h, Bool.and_false, Bool.or_false]
    | some j => simp only [jE, ih (t := some j) h]
  | loop b ih =>
    intro i h;simp only [jE, ih (t := none) h, ih (t := t) h, Bool.and_false, Bool.or_false]
  | region id ops draw => intro i h; exact h
  | scope b ih =>
    intro i h;simp only [jE, ih (t := t) h]
  | _ => intro i h; rfl
structure FrE (c : Code) (e : Exit) (st st' : St) : Prop where
  fr : Fr (rW c e) st st'
  ok : lQ c e = true
def CI (hE : bB P E) (hm : P.follows .mixedOrders = true) (hh : iH E) (hI : APD P I) : ∀ (c : Code) (cx : Cx), cx.P = P -> ∀ (Q : Exit -> St -> Prop) (st : St), sx cA P E I H nt c Q st -> AW cx nt c (λe st' => Q e st' /\ FrE c e st st') st := by
  intro c
  induction c with
  | skip => exact λcx hP Q st h ρ a w hr => wp_skip ⟨st, ρ, hr, h, Fr.refl _ _, rfl⟩
  | label l => exact λcx hP Q st h ρ a w hr => wp_label ⟨st, ρ, hr, h, Fr.refl _ _, rfl⟩
  | region id ops draw =>
    intro cx hP Q st h;subst hP;have hA : ∀ o ∈ ops.toList, ∀ t, o.dst = some t -> rW (.region id ops draw) .normal t = true := λo ho t ht => TK ho ht;simp only [sx, BSQ] at h;split at h
    · intro ρ a w hr
      refine wp_region ?_;have := FA (Q := DZ cx nt λe st' => Q e st' /\ FrE (.region id ops false) e st st') hE hh hI (λst' ρ a w hr' hf hk => ⟨st', ρ, hr', hk, hf, rfl⟩) ops.toList 0 st ρ a w (by simp) hA (Fr.refl _ _) hr h;rw [List.range_eq_range'];simpa using this
    · split at h
      · rename_i t htail
        have hT : AEM E ops t = true := by
          unfold BLW at htail;split at htail
          · split at htail
            · cases htail; assumption
            · cases htail
          · cases htail
        obtain ⟨st1, h1, h2, h3⟩ := AC4 hh hA (List.range t) (p9 ops st) (Fr.refl _ _) h;have hroom : Fr (rW (.region id ops true) .normal) st (p9 ops st) := ⟨λ_ _ => rfl, D9.same (n' := (p9 ops st).n) (Nat.le_add_right _ _)⟩
        refine A33 hE hm hT h1 λρ a w hr => ?_;have := FA (Q := DZ cx nt λe st' => Q e st' /\ FrE (.region id ops true) e st st') hE hh hI (λst' ρ a w hr' hf hk => ⟨st', ρ, hr', hk, hf, rfl⟩) (ops.toList.drop t) t st1 ρ a w (λj => by simp) (λo ho => hA o (List.mem_of_mem_drop ho)) (hroom.trans h2) hr h3;simpa using this
      split at h
      · rename_i hord
        obtain ⟨st', h1, h2, h3⟩ := A8L hh ops.toList st hA (Fr.refl _ _) h;exact AUC hE hm hord h1 ⟨h3, h2, rfl⟩
      · split at h
        · rename_i M base hb
          obtain ⟨st', h1, h2, h3⟩ := AC4 hh hA (APR M E ops) (p9 ops st) (Fr.refl _ _) h;have hroom : Fr (rW (.region id ops true) .normal) st (p9 ops st) := ⟨λ_ _ => rfl, D9.same (n' := (p9 ops st).n) (Nat.le_add_right _ _)⟩
          exact AGW hE hm hb h1 ⟨h3, hroom.trans h2, rfl⟩
        · exact h.elim
  | seq a b iha ihb =>
    intro cx hP Q st h;have fab : ∀ {e : Exit} {st st1 st2 : St}, Fr (jE none a) st st1 -> ends none a = true -> FrE b e st1 st2 -> FrE (.seq a b) e st st2 := by
      intro e st st1 st2 h1 h2 h3;have hends : lQ (.seq a b) e = true := by
        have := h3.ok;cases e <;> simp only [lQ, ends] at this ⊢ <;> simp [h2, this]
      have hi : ∀ i, rW (.seq a b) e i = false -> jE none a i = false /\ rW b e i = false := by
        intro i hi;have h4 := h3.ok;cases e <;> simp only [lQ, rW, jE, asg] at hi h4 ⊢ <;> simp only [h2, h4, Bool.true_and, Bool.or_eq_false_iff] at hi <;> first | exact hi.1 | exact ⟨AIC hi.1, hi.2⟩
      exact ⟨(h1.mono λi h => (hi i h).1).trans (h3.fr.mono λi h => (hi i h).2), hends⟩
    have fa : ∀ {e : Exit} {st st1 : St}, e ≠ .normal -> lQ a e = true -> Fr (rW a e) st st1 -> FrE (.seq a b) e st st1 := by
      intro e st st1 hne h2 h1;refine ⟨h1.mono λi hi => ?_, ?_⟩
      · cases e <;> simp only [lQ, rW, jE, asg] at hi h2 ⊢
        · exact absurd rfl hne
        · simp only [h2, Option.isSome_some, Bool.true_and, Bool.or_eq_false_iff] at hi; exact hi.2
        all_goals (simp only [Bool.or_eq_false_iff] at hi; exact hi.1)
      · cases e <;> simp only [lQ, ends] at h2 ⊢
        · exact absurd rfl hne
        · simp [h2]
    simp only [sx] at h;split at h
    · intro ρ act w hr
      refine wp_seq (wp_mono (iha cx hP _ st h ρ act w hr) ?_);rintro e a' w' ⟨st', ρ', hr', hq, hf⟩;by_cases he : e = .normal
      · subst he
        refine wp_mono (ihb cx hP Q st' hq ρ' a' w' hr') ?_;rintro e2 a2 w2 ⟨st2, ρ2, hr2, hq2, hf2⟩;exact ⟨st2, ρ2, hr2, hq2, fab hf.fr hf.ok hf2⟩
      · have hp : DZ cx nt (λe st' => Q e st' /\ FrE (.seq a b) e st st') e a' w' := ⟨st', ρ', hr', by cases e <;> first | exact absurd rfl he | exact hq, fa he hf.ok hf.fr⟩
        cases e <;> first | exact absurd rfl he | exact hp
    · rename_i its hj
      intro ρ act w hr;have h : sx cA P E I H nt a (AZW cA its st (λy => sx cA P E I H nt b Q (unS its st (GF its (jE none a) st y))) Q) (YP its st) := h;refine wp_seq ?_;have h1 := iha (PU cx its st ρ w) hP _ _ h ρ act w (BBQ hr);refine wp_mono h1 ?_;rintro e a' w' ⟨st', ρ', hr', hq, hf⟩;obtain ⟨hf1, hk⟩ := hf.fr.BSL;by_cases he : e = .normal
      · subst he
        obtain ⟨hok, y, hX, hy⟩ := OO hq;obtain ⟨ρ2, hr2⟩ := APE (A := jE none a) hr hr' (λi hi => hf.fr.s i hi) hk hok hy;have hr3 := AUB hr hr2 BIH;refine wp_mono (ihb cx hP Q _ hX ρ2 a' w' hr3) ?_;rintro e2 a2 w2 ⟨st2, ρ2, hr2, hq2, hf2⟩;exact ⟨st2, ρ2, hr2, hq2, fab BID hf.ok hf2⟩
      · have := TP he hq
        have hp : DZ cx nt (λe st' => Q e st' /\ FrE (.seq a b) e st st') e a' w' := ⟨_, ρ', AUB hr hr' hk, this, fa he hf.ok hf1⟩
        cases e <;> first | exact absurd rfl he | exact hp
  | cond c t e iht ihe =>
    intro cx hP Q st h ρ a w hr;simp only [sx] at h;split at h
    · rename_i b hb
      have hev := hr.evS c;rw [hb] at hev;have hval : a.eval c = .bool b := by
        generalize a.eval c = q at hev ⊢;cases hev with
        | p _ _ h => cases h; rfl
      refine wp_cond hval ?_;rw [wN] at h;have f1 : ∀ {x : Exit} {st st1 : St}, FrE t x st st1 -> FrE (.cond c t e) x st st1 := by
        intro x st st1 hf;have h2 := hf.ok;refine ⟨hf.fr.mono λi hi => ?_, ?_⟩
        · cases x <;> simp only [lQ, rW, jE, asg] at hi h2 ⊢ <;> simp only [h2, Bool.true_and, Bool.or_eq_false_iff] at hi <;> exact hi.1
        · cases x <;> simp only [lQ, ends] at h2 ⊢ <;> simp [h2]
      have f2 : ∀ {x : Exit} {st st1 : St}, FrE e x st st1 -> FrE (.cond c t e) x st st1 := by
        intro x st st1 hf;have h2 := hf.ok;refine ⟨hf.fr.mono λi hi => ?_, ?_⟩
        · cases x <;> simp only [lQ, rW, jE, asg] at hi h2 ⊢ <;> simp only [h2, Bool.true_and, Bool.or_eq_false_iff] at hi <;> exact hi.2
        · cases x <;> simp only [lQ, ends] at h2 ⊢ <;> simp [h2]
      cases b with
      | true =>
        rw [if_pos rfl];refine wp_mono (iht cx hP Q st (by have := h.1 rfl; rwa [AVE hb] at this) ρ a w hr) ?_;rintro e a' w' ⟨st', ρ', hr', hq, hf⟩;exact ⟨st', ρ', hr', hq, f1 hf⟩
      | false =>
        rw [if_neg (by simp)];refine wp_mono (ihe cx hP Q st (by have := h.2 rfl; rwa [AVE hb] at this) ρ a w hr) ?_;rintro e a' w' ⟨st', ρ', hr', hq, hf⟩;exact ⟨st', ρ', hr', hq, f2 hf⟩
    · exact h.elim
  | block id b ih =>
    intro cx hP Q st h ρ a w hr;refine wp_block (wp_mono (ih cx hP _ st h ρ a w hr) ?_);rintro e a' w' ⟨st', ρ', hr', hq, hf⟩;have h2 := hf.ok;cases e with
    | exit id' =>
      simp only [S7] at hq;simp only [Exit.inBlock];split at hq
      · rename_i e
        rw [if_pos e];subst e;refine ⟨st', ρ', hr', hq, hf.fr.mono λi hi => ?_, ?_⟩
        · simp only [lQ, rW, jE] at hi h2 ⊢
          simp only [h2, Bool.true_and, Bool.or_eq_false_iff] at hi; exact hi.2
        · simp only [lQ, ends] at h2 ⊢; simp [h2]
      · rename_i e
        rw [if_neg e];exact ⟨st', ρ', hr', hq, hf.fr.mono λi hi => by simpa only [rW, jE] using hi, by simpa only [lQ, ends] using h2⟩
    | normal =>
      refine ⟨st', ρ', hr', hq, hf.fr.mono λi hi => ?_, ?_⟩
      · simp only [lQ, rW, jE] at hi h2 ⊢
        simp only [h2, Bool.true_and, Bool.or_eq_false_iff] at hi; exact hi.1
      · simp only [lQ, ends] at h2 ⊢; simp [h2]
    | _ => exact ⟨st', ρ', hr', hq, hf.fr.mono λi hi => by simpa only [rW, asg] using hi, rfl⟩
  | loop b ih =>
    intro cx hP Q st h ρ a w hr;have fl : ∀ {e : Exit}, e ≠ .normal -> lQ b e = true -> lQ (.loop b) e = true /\ ∀ i, rW (.loop b) e i = false -> (ends none b = true -> jE none b i = false) /\ rW b e i = false := by
      intro e hne h2;refine ⟨?_, λi hi => ?_⟩
      · cases e <;> simp only [lQ, ends] at h2 ⊢
        · exact absurd rfl hne
        · simp [h2]
      · cases e <;> simp only [rW, jE, asg] at hi ⊢
        · exact absurd rfl hne
        · simp only [Bool.or_eq_false_iff] at hi
          exact ⟨λh => by simpa [h] using hi.1, hi.2⟩
        all_goals exact ⟨λ_ => AIC hi, hi⟩
    simp only [sx] at h;split at h
    · rename_i n hl
      have key : ∀ (n : Nat) (st1 : St) (ρ : Nat -> Option Loc) (a : Act) (w : World), Rel cx nt ρ st1 a w -> (st1 = st \/ ends none b = true) -> Fr (jE none b) st st1 -> unr cA (sx cA P E I H nt b) Q n st1 -> u7 cx.P b (DZ cx nt λe st' => Q e st' /\ FrE (.loop b) e st st') a w := by
        intro n
        induction n with
        | zero => intro st1 ρ a w hr _ hf h; exact h.elim
        | succ n ihn =>
          intro st1 ρ a w hr hor hf h;refine u7.round (wp_mono (ih cx hP _ st1 h ρ a w hr) ?_);rintro e a2 w2 ⟨st2, ρ2, hr2, hq2, hf2⟩;by_cases he : e = .normal
          · subst he
            exact ihn st2 ρ2 a2 w2 hr2 (.inr hf2.ok) (hf.trans hf2.fr) hq2
          · obtain ⟨g1, g2⟩ := fl he hf2.ok
            have hq2' : Q e st2 := by cases e <;> first | exact absurd rfl he | exact hq2
            have hfr : Fr (rW (.loop b) e) st st2 := by
              rcases hor with rfl | hor
              · exact hf2.fr.mono λi hi => (g2 i hi).2
              · exact (hf.mono λi hi => (g2 i hi).1 hor).trans (hf2.fr.mono λi hi => (g2 i hi).2)
            have hp : DZ cx nt (λe st' => Q e st' /\ FrE (.loop b) e st st') e a2 w2 := ⟨st2, ρ2, hr2, hq2', hfr, g1⟩
            cases e <;> first | exact absurd rfl he | exact hp
      exact (key n st ρ a w hr (.inl rfl) (Fr.refl _ _) h).wp
    · split at h
      · rename_i its hl
        split at h
        · rename_i hok
          obtain ⟨hok, hnn⟩ := (ac _ _).mp hok;obtain ⟨y0, hloop, hy0⟩ := TS h;have hr1 := BBQ (its := its) hr;obtain ⟨ρ1, hr2⟩ := APE (A := jE none b) hr hr1 (λi _ => rfl) BIP hok hy0;have key := hloop (λy => ∀ ρ' a' w', Rel (PU cx its st ρ w) nt ρ' (GF its (jE none b) st y) a' w' -> u7 cx.P b (DZ cx nt λe st' => Q e st' /\ FrE (.loop b) e st st') a' w') (by
            intro y hb ρ' a' w' hr';refine u7.round (wp_mono (ih (PU cx its st ρ w) hP _ _ hb ρ' a' w' hr') ?_);rintro e a2 w2 ⟨st2, ρ2, hr2, hq2, hf2⟩;by_cases he : e = .normal
            · subst he
              obtain ⟨hf1, hk⟩ := hf2.fr.BLL (D := jE none b) λi hi => ⟨hi, hi⟩
              obtain ⟨hok2, y2, hX, hy2⟩ := OO hq2;obtain ⟨ρ3, hr3⟩ := APE (A := jE none b) hr hr2 (λi hi => hf1.s i hi) hk hok2 hy2;exact hX ρ3 a2 w2 hr3
            · obtain ⟨g1, g2⟩ := fl he hf2.ok
              by_cases hn : ends none b = true
              · obtain ⟨hf1, hk⟩ := hf2.fr.BLL (D := rW (.loop b) e) λi hi => ⟨(g2 i hi).1 hn, (g2 i hi).2⟩
                have := TP he hq2;have hp : DZ cx nt (λe st' => Q e st' /\ FrE (.loop b) e st st') e a2 w2 := ⟨_, ρ2, AUB hr hr2 hk, this, hf1, g1⟩
                cases e <;> first | exact absurd rfl he | exact hp
              · exact absurd hnn hn)
          exact (key ρ1 a w hr2).wp
        · exact h.elim
      · exact h.elim
  | exit id => exact λcx hP Q st h ρ a w hr => wp_exit ⟨st, ρ, hr, h, Fr.refl _ _, by simp [lQ, ends]⟩
  | ret => exact λcx hP Q st h ρ a w hr => wp_ret ⟨st, ρ, hr, h, Fr.refl _ _, rfl⟩
  | rangeFunc _ _ _ _ => exact λcx hP Q st h => h.elim
  | scope b ih =>
    intro cx hP Q st h ρ a w hr;refine wp_scope_straight (wp_mono (ih cx hP _ st h ρ a w hr) ?_);rintro e a' w' ⟨st', ρ', hr', hq, hf⟩;have h2 := hf.ok;cases e with
    | goto l => exact hq.elim
    | normal => exact ⟨st', ρ', hr', hq, hf.fr.mono λi hi => by simpa only [rW, jE] using hi, by simpa only [lQ, ends] using h2⟩
    | exit id => exact ⟨st', ρ', hr', hq, hf.fr.mono λi hi => by simpa only [rW, jE] using hi, by simpa only [lQ, ends] using h2⟩
    | _ => exact ⟨st', ρ', hr', hq, hf.fr.mono λi hi => by simpa only [rW, asg] using hi, rfl⟩
  | goto _ => exact λcx hP Q st h => h.elim
  | refuse _ => exact λcx hP Q st h => h.elim
end
section
variable (C : mM) (P : Program) (E : Env) (Hs : FuncId -> Hint)
def BSO (rs : Array ResultVar) (K : KN) (e : Exit) (st : St) : Prop := match n7 e, BD2 P rs st with
  | true, some (d, σ', n') => K d σ' n'
  | _, _ => C.bad 601
def ARP : Nat -> Inl
  | 0 => λ_ _ _ _ _ => C.bad 602
  | k + 1 => λfid args σ n K => match P.funcs[fid]? with
    | some fn => match fn.body, decide (args.length <= fn.ntmps) with
      | some c, true => sx C P E (ARP k) (Hs fid) fn.ntmps c (BSO C P fn.results K) (stD args σ n)
      | _, _ => C.bad 603
    | none => C.bad 604
def BSX (rs : Array ResultVar) (R : T -> Prop) (e : Exit) (st : St) : Prop := match n7 e, BP6 P rs st with
  | true, some r => R r
  | _, _ => C.bad 701
def BSV (rs : Array ResultVar) (R : List (List T) -> Prop) (e : Exit) (st : St) : Prop := match n7 e, BP7 P rs st with
  | true, some r => R r
  | _, _ => C.bad 702
end
section
variable {P : Program} {E : Env} {Hs : FuncId -> Hint}
def pW {e : Exit} (h : n7 e = true) : e = .normal \/ e = .ret := by cases e <;> simp [n7] at h <;> simp
def sO (hn : cU P = true) {f : FuncId} {fn : Func} (hf : P.funcs[f]? = some fn) : (fn.name == "runtime.NumGoroutine") = false := by
  have := Array.all_eq_true_iff_forall_mem.1 hn fn (Array.mem_of_getElem? hf);simp_all
def yE (hE : bB P E) (hm : P.follows .mixedOrders = true) (hn : cU P = true) (hh : iH E) : ∀ k, APD P (ARP cA P E Hs k) := by
  intro k
  induction k with
  | zero => intro cx ρ σ n w fid args vs K hP hG hI ha h; exact h.elim
  | succ k ih =>
    intro cx ρ σ n w fid args vs K hP hG hI ha h;simp only [ARP] at h;split at h
    · rename_i fn hf
      split at h
      · rename_i c hb hlen
        have hlen : args.length <= fn.ntmps := of_decide_eq_true hlen;refine ⟨⟨fn, hf, sO hn hf, by simp [hb]⟩, ?_⟩;subst hP
        let cx' : Cx := ⟨cx.P, cx.own, cx.w0, ρ, σ, w, cx.arg⟩
        have hI' : Inv cx' ρ σ n w := ⟨hI.boxes, hI.inj, hI.new, hI.uQ, hI.below, hI.nC, hI.low⟩
        refine calls_of_wp hf hb ?_;have hr : Rel cx' fn.ntmps ρ (stD args σ n) { tmps := vs ++ Array.replicate (fn.ntmps - vs.size) undef, defers := [] } w := Q5 hI' (bZ.refl _ _ _ _) hG ha hlen;refine wp_mono (CI hE hm hh ih c cx' rfl _ (stD args σ n) h _ _ w hr) ?_;rintro e a' w' ⟨st', ρ', hr', hq, hf'⟩;unfold BSO at hq;split at hq
        · rename_i d σ' n' he hres
          obtain ⟨v, h1, h2, h3⟩ := AMW hr' hres;obtain ⟨rfl, rfl⟩ := h3;have hI2 : Inv cx ρ' st'.σ st'.n w' := ⟨hr'.inv.boxes, hr'.inv.inj, hr'.inv.new, hr'.inv.uQ, hr'.inv.below, hr'.inv.nC, hr'.inv.low⟩
          have hk2 : bZ cx ρ ρ' σ st'.σ w w' := ⟨hr'.keeps.cell, hr'.keeps.size, hr'.keeps.own, hr'.keeps.loc, hr'.keeps.shape, hr'.keeps.ro⟩
          rcases pW he with rfl | rfl
          · exact ⟨hr'.defers, v, h1, v, ρ', d, st'.σ, st'.n, rfl, hI2, hk2, h2, hf'.fr.b, hq⟩
          · exact ⟨hr'.defers, v, h1, v, ρ', d, st'.σ, st'.n, rfl, hI2, hk2, h2, hf'.fr.b, hq⟩
        · exact hq.elim
      · exact h.elim
    · exact h.elim
def fE (C : mM) (P : Program) (E : Env) (Hs : FuncId -> Hint) (k : Nat) (f : FuncId) (args : List T) (R : T -> Prop) : Prop := match P.funcs[f]? with
  | some fn => match fn.body, decide (args.length <= fn.ntmps) with
    | some c, true => sx C P E (ARP C P E Hs k) (Hs f) fn.ntmps c (BSX C P fn.results R) (st0 args)
    | _, _ => C.bad 703
  | none => C.bad 704
def XP (C : mM) (P : Program) (E : Env) (Hs : FuncId -> Hint) (k : Nat) (f : FuncId) (args : List T) (R : List (List T) -> Prop) : Prop := match P.funcs[f]? with
  | some fn => match fn.body, decide (args.length <= fn.ntmps) with
    | some c, true => sx C P E (ARP C P E Hs k) (Hs f) fn.ntmps c (BSV C P fn.results R) (st0 args)
    | _, _ => C.bad 703
  | none => C.bad 704
def BSW (C : mM) (P : Program) (c : Nat) (rs : Array ResultVar) (R : T -> Prop) (e : Exit) (st : St) : Prop := match n7 e, BP8 P c rs st with
  | true, some cs => R (.agg cs)
  | _, _ => C.bad 705
def AGK (C : mM) (P : Program) (E : Env) (Hs : FuncId -> Hint) (k : Nat) (c : Nat) (f : FuncId) (args : List T) (R : T -> Prop) : Prop := match P.funcs[f]? with
  | some fn => match fn.body, decide (args.length <= fn.ntmps) with
    | some cd, true => sx C P E (ARP C P E Hs k) (Hs f) fn.ntmps cd (BSW C P c fn.results R) (st0 args)
    | _, _ => C.bad 703
  | none => C.bad 704
def A1R : D -> Bool
  | .p t => t.flat
  | _ => false
def AGM : D -> T
  | .p t => t
  | _ => .v undef
def BIZ (C : mM) (σ : Nat -> Option bL) (d : D) (K : T -> Prop) : Prop := match d with
  | .p t => match gP t with
    | some (_, []) => K (.sl false [])
    | _ => C.PW t.flat (K t)
  | .own k => match σ k with
    | some (.arr false _ rows) => C.PW (rows.all λr => r.all T.flat) (K (.sl false rows))
    | _ => C.bad 801
  | .map k => match σ k with
    | some (.map false es) => C.PW (es.all λe => A1R e.2) (K (.mp (es.map λe => (e.1, AGM e.2))))
    | _ => C.bad 802
  | _ => C.bad 803
def BB2 (C : mM) (σ : Nat -> Option bL) : List D -> (List T -> Prop) -> Prop
  | [], K => K []
  | d :: l, K => BIZ C σ d λt => BB2 C σ l λts => K (t :: ts)
def BQG (C : mM) (P : Program) (rs : Array ResultVar) (R : T -> Prop) (e : Exit) (st : St) : Prop := match n7 e, zS P st rs.toList with
  | true, some [d] => BIZ C st.σ d R
  | true, some ds => BB2 C st.σ ds λts => R (.cB ts)
  | _, _ => C.bad 804
def uU (C : mM) (P : Program) (E : Env) (Hs : FuncId -> Hint) (k : Nat) (f : FuncId) (args : List T) (R : T -> Prop) : Prop := match P.funcs[f]? with
  | some fn => match fn.body, decide (args.length <= fn.ntmps) with
    | some c, true => sx C P E (ARP C P E Hs k) (Hs f) fn.ntmps c (BQG C P fn.results R) (st0 args)
    | _, _ => C.bad 703
  | none => C.bad 704
variable {cx:Cx}{nt:Nat}{ρ:Nat -> Option Loc}
def AVK {a : Act} {w : World} (hr : Rel cx nt ρ st a w) (hn : cx.arg = []) {d : D} {v : Value} (hd : Rd w (bY cx ρ st.σ) ρ d v) {K : T -> Prop} (h : BIZ cA st.σ d K) : ∃ t, K t /\ cS w (λb => b < cx.w0.heap.size) t v := by
  unfold BIZ at h;split at h
  · cases hd with
    | p _ _ hd =>
    split at h
    · rename_i f hrow
      refine ⟨_, h, ?_⟩;have := oA hd hrow;cases this with
      | dF _ a cap hf hn => exact .dF false a cap (by simp) hn
      | sl _ _ sz bV off cap fc k1 k2 k3 k4 k5 k6 k7 k8 k9 => exact .dF false _ cap (by simp) (by simp)
    · obtain ⟨hf, h⟩ := h
      exact ⟨_, h, hd.VL hf⟩
  · rename_i k
    split at h
    · rename_i z rows hσ
      obtain ⟨hf, h⟩ := h;refine ⟨_, h, ?_⟩;have this : cS w (λ_ => False) (.sl false rows) v := UE (own0 := λ_ => False) (τ := st.σ) hr.inv (λb hb => hb.elim) (λ_ _ h => h) (λ_ _ _ _ _ _ h => h) 1 hd (by simp [j1, hσ]);have flatc : ∀ i j (hi : i < rows.length) (hj : j < rows[i].length), rows[i][j].flat = true := λi j hi hj => List.all_eq_true.1 (List.all_eq_true.1 hf _ (ak hi)) _ (ak hj);cases hd with
      | own _ l hl hL h1 h2 =>
        have hm := hr.inv.ALK hn k _ l hσ hl hL rfl;generalize hvv : (Value.slice (some ⟨l.bV, 0, none⟩) l.L l.C) = v at this;cases this with
        | dF _ a cap hf hn => exact .dF false a cap (by simp) hn
        | sl _ _ sz bV off cap f k1 k2 k3 k4 k5 k6 k7 k8 k9 =>
          have e : l.bV = bV := by
            simp_all
          exact .sl false rows sz bV off cap f k1 k2 k3 (by show ¬ bV < _; omega) k5 k6 k7 k8 (λi j hi hj => (k9 i j hi hj).VL (flatc i j hi hj))
      | eW _ l a hl hL =>
        generalize hvv : (Value.slice a 0 0) = v at this;cases this with
        | dF _ a cap hf hn => exact .dF false a cap (by simp) hn
        | sl _ _ sz bV off cap f k1 k2 k3 k4 k5 k6 k7 k8 k9 =>
          have e : rows = [] := by
            injection hvv with e1 e2 e3
            exact List.eq_nil_of_length_eq_zero e2.symm
          subst e;exact .dF false _ cap (by simp) (by simp)
    · exact h.elim
  · rename_i k
    split at h
    · rename_i es hσ
      obtain ⟨hf, h⟩ := h;refine ⟨_, h, ?_⟩;obtain ⟨l', ents, hl', hL, ho, hE⟩ := hr.inv.BBW hσ;cases hd with
      | map _ l hl =>
      have hll : l' = l := by rw [hl] at hl'; exact (Option.some.inj hl').symm
      subst hll;have hm := hr.inv.ALK hn k _ l' hσ hl hL rfl;have hlen : (es.map λe => (e.1, AGM e.2)).length = es.length := by simp
      have hex : ∀ i (hi : i < es.length), ∃ e, ents[i]? = some e /\ e.key = es[i].1 /\ e.born = i /\ cS w (λb => b < cx.w0.heap.size) (AGM es[i].2) e.val := by
        intro i hi;obtain ⟨e, a1, a2, a3, a4⟩ := hE.2 i hi;have hp := List.all_eq_true.1 hf es[i] (ak hi);refine ⟨e, by rw [<- Array.getElem?_toList]; exact a1, a2, by omega, ?_⟩;generalize es[i].2 = d at hp a4;cases d with
        | p t =>
          cases a4 with
          | p _ _ a4 => exact a4.VL hp
        | _ => cases hp
      refine .mp _ l'.bV ents (λi => ents.getD i ⟨undef, undef, 0⟩) (by show ¬ l'.bV < _; omega) ((hr.inv.new k l' hl).2 hL).1 (by rw [hlen]; exact ho) (by rw [hlen]; simpa using hE.1) (λi hi => ?_) (λi hi => ?_)
      · obtain ⟨e, a1, a2, a3, _⟩ := hex i (by omega)
        simp_all
      · obtain ⟨e, a1, _, _, a4⟩ := hex i (by omega)
        simp_all
    · exact h.elim
  · exact h.elim
def ALQ {cx : Cx} {nt : Nat} {ρ : Nat -> Option Loc} {st : St} {a : Act} {w : World} (hr : Rel cx nt ρ st a w) (hn : cx.arg = []) : ∀ {ds : List D} {vs : List Value} {K : List T -> Prop}, dO (Rd w (bY cx ρ st.σ) ρ) ds vs.toArray -> BB2 cA st.σ ds K -> ∃ ts, K ts /\ dO (cS w (λb => b < cx.w0.heap.size)) ts vs.toArray
  | [], vs, K, ha, h => by
    have : vs = [] := by simpa using ha.1
    subst this;exact ⟨[], h, dO.nil⟩
  | d :: ds, vs, K, ha, h => by
    cases vs with
    | nil => have := ha.1; simp at this
    | cons v vs =>
      have h0 := ha.2 0 (by simp);have ht : dO (Rd w (bY cx ρ st.σ) ρ) ds vs.toArray := ⟨by have := ha.1; simp at this ⊢; exact this, λi hi => by
        have := ha.2 (i + 1) (by simp; omega);simpa using this⟩
      obtain ⟨t, k1, k2⟩ := AVK hr hn (by simpa using h0) h;obtain ⟨ts, k3, k4⟩ := ALQ hr hn ht k1;refine ⟨t :: ts, k3, ?_⟩;have := (dO.one (R := cS w (λb => b < cx.w0.heap.size)) k2).append k4;simp_all
def BFC {a : Act} {w : World} (hr : Rel cx nt ρ st a w) (hn : cx.arg = []) {fn : Func} {R : T -> Prop} {e : Exit} (h : BQG cA cx.P fn.results R e st) :
    n7 e = true /\ ∃ v t, (results fn a.tmps).run cx.P w = .ok v w /\ R t /\ cS w (λb => b < cx.w0.heap.size) t v := by
  have run : ∀ {ds : List D}, zS cx.P st fn.results.toList = some ds -> ∃ vs : Array Value, (fn.results.mapM (BT a.tmps)).run cx.P w = .ok vs w /\ dO (Rd w (bY cx ρ st.σ) ρ) ds vs := by
    intro ds hds;obtain ⟨vs, h1, h2⟩ := p8 hr hds;refine ⟨vs.toArray, ?_, h2⟩;rw [Array.mapM_eq_mapM_toList, Sem.run_map, h1];rfl
  unfold BQG at h;split at h
  · rename_i d he hd
    refine ⟨he, ?_⟩;obtain ⟨vs, h1, h2⟩ := run hd;have hs : vs.size = 1 := by simpa using h2.1
    have h3 := h2.2 0 (by simp);have h4 : vs.getD 0 undef = vs[0] := by simp [Array.getD, hs]
    rw [h4] at h3;obtain ⟨t, k1, k2⟩ := AVK hr hn h3 h;refine ⟨vs[0], t, ?_, k1, k2⟩;rw [iZ, Sem.run_bind, h1];simp [hs]
  · rename_i ds hne he hds
    refine ⟨he, ?_⟩;obtain ⟨vs, h1, h2⟩ := run hds;have hs : ¬ vs.size = 1 := by
      intro hs;rw [h2.1] at hs;obtain ⟨d, rfl⟩ := List.length_eq_one_iff.1 hs;simp_all
    obtain ⟨ts, k1, k2⟩ := ALQ hr hn (vs := vs.toList) (by simpa using h2) h;refine ⟨.tuple vs, .cB ts, ?_, k1, .cB ts vs (by simpa using k2.1) (by simpa using k2.2)⟩;rw [iZ, Sem.run_bind, h1];simp [hs]
  · exact h.elim
variable {g:List T -> Option T}
def ALP (hE : bB P E) (hm : P.follows .mixedOrders = true) (hn : cU P = true) (hh : iH E) (k : Nat) {f : FuncId} (hex : ∃ fn c, P.funcs[f]? = some fn /\ fn.body = some c)
    (h : ∀ args r, g args = some r -> (∀ t ∈ args, Bd t) -> uU cA P E Hs k f args (λx => x = r)) : j9 P f g := by
  obtain ⟨fn, c, hf, hb⟩ := hex;refine ⟨⟨fn, hf, sO hn hf, by simp [hb]⟩, λw own args vs r hG hown ha hg => ?_⟩;have hbd : ∀ t ∈ args, Bd t := by
    intro t ht;obtain ⟨i, hi, rfl⟩ := List.mem_iff_getElem.1 ht;exact (ha.2 i hi).bd
  have hs := h args r hg hbd;simp only [uU, hf, hb] at hs;split at hs
  · rename_i c' he hlen
    cases he;have hlen : args.length <= fn.ntmps := of_decide_eq_true hlen
    let cx : Cx := YF P own w
    refine calls_of_wp hf hb ?_;refine wp_mono (CI hE hm hh (yE hE hm hn hh k) c cx rfl _ (st0 args) hs _ _ w (Q4 (P := P) (nt := fn.ntmps) hG hown ha hlen)) ?_;rintro e a' w' ⟨st', ρ', hr', hq, _⟩;obtain ⟨he, v, t, h1, rfl, h2⟩ := BFC hr' rfl hq;rcases pW he with rfl | rfl
    · exact ⟨hr'.defers, v, h1, v, rfl, h2, hr'.inv.below.toB⟩
    · exact ⟨hr'.defers, v, h1, v, rfl, h2, hr'.inv.below.toB⟩
  · exact hs.elim
def MV (hE : bB P E) (hm : P.follows .mixedOrders = true) (hn : cU P = true) (hh : iH E) (k : Nat) {f : FuncId} (hex : ∃ fn c, P.funcs[f]? = some fn /\ fn.body = some c)
    (h : ∀ args r, g args = some r -> (∀ t ∈ args, Bd t) -> fE cA P E Hs k f args (λx => x = r)) : aT P f g := by
  obtain ⟨fn, c, hf, hb⟩ := hex;refine ⟨⟨fn, hf, sO hn hf, by simp [hb]⟩, λw own args vs r hG hown ha hg => ?_⟩;have hbd : ∀ t ∈ args, Bd t := by
    intro t ht;obtain ⟨i, hi, rfl⟩ := List.mem_iff_getElem.1 ht;exact (ha.2 i hi).bd
  have hs := h args r hg hbd;simp only [fE, hf, hb] at hs;split at hs
  · rename_i c' he hlen
    cases he;have hlen : args.length <= fn.ntmps := of_decide_eq_true hlen
    let cx : Cx := YF P own w
    refine calls_of_wp hf hb ?_;refine wp_mono (CI hE hm hh (yE hE hm hn hh k) c cx rfl _ (st0 args) hs _ _ w (Q4 (P := P) (nt := fn.ntmps) hG hown ha hlen)) ?_;rintro e a' w' ⟨st', ρ', hr', hq, _⟩;unfold BSX at hq;split at hq
    · rename_i r' he hres
      subst hq;obtain ⟨v, h1, h2⟩ := BD0 hr' hres;rcases pW he with rfl | rfl
      · exact ⟨hr'.defers, v, h1, v, rfl, h2, hr'.inv.below.toB⟩
      · exact ⟨hr'.defers, v, h1, v, rfl, h2, hr'.inv.below.toB⟩
    · exact hq.elim
  · exact hs.elim
def UC (hE : bB P E) (hm : P.follows .mixedOrders = true) (hn : cU P = true) (hh : iH E) (k : Nat) {f : FuncId} {g : List T -> Option (List (List T))} (hex : ∃ fn c, P.funcs[f]? = some fn /\ fn.body = some c)
    (h : ∀ args r, g args = some r -> (∀ t ∈ args, Bd t) -> XP cA P E Hs k f args (λx => x = r)) : gL P f g := by
  obtain ⟨fn, c, hf, hb⟩ := hex;refine ⟨⟨fn, hf, sO hn hf, by simp [hb]⟩, λw own args vs r hG hown ha hg => ?_⟩;have hbd : ∀ t ∈ args, Bd t := by
    intro t ht;obtain ⟨i, hi, rfl⟩ := List.mem_iff_getElem.1 ht;exact (ha.2 i hi).bd
  have hs := h args r hg hbd;simp only [XP, hf, hb] at hs;split at hs
  · rename_i c' he hlen
    cases he;have hlen : args.length <= fn.ntmps := of_decide_eq_true hlen
    let cx : Cx := YF P own w
    refine calls_of_wp hf hb ?_;refine wp_mono (CI hE hm hh (yE hE hm hn hh k) c cx rfl _ (st0 args) hs _ _ w (Q4 (P := P) (nt := fn.ntmps) hG hown ha hlen)) ?_;rintro e a' w' ⟨st', ρ', hr', hq, _⟩;unfold BSV at hq;split at hq
    · rename_i r' he hres
      subst hq;obtain ⟨v, h1, h2, h3⟩ := BD1 hr' rfl hres;rcases pW he with rfl | rfl
      · exact ⟨hr'.defers, v, h1, v, rfl, hr'.inv.below.toB, h2, h3⟩
      · exact ⟨hr'.defers, v, h1, v, rfl, hr'.inv.below.toB, h2, h3⟩
    · exact hq.elim
  · exact hs.elim
def A3H (hE : bB P E) (hm : P.follows .mixedOrders = true) (hn : cU P = true) (hh : iH E) (k : Nat) {f : FuncId} {ci : Nat} (hex : ∃ fn c, P.funcs[f]? = some fn /\ fn.body = some c)
    (h : ∀ args r, g args = some r -> (∀ t ∈ args, Bd t) -> AGK cA P E Hs k ci f args (λx => x = r)) : LA P f ci g := by
  obtain ⟨fn, c, hf, hb⟩ := hex;refine ⟨⟨fn, hf, sO hn hf, by simp [hb]⟩, λw own args vs r hG hown ha hg => ?_⟩;have hbd : ∀ t ∈ args, Bd t := by
    intro t ht;obtain ⟨i, hi, rfl⟩ := List.mem_iff_getElem.1 ht;exact (ha.2 i hi).bd
  have hs := h args (.agg r) hg hbd;simp only [AGK, hf, hb] at hs;split at hs
  · rename_i c' he hlen
    cases he;have hlen : args.length <= fn.ntmps := of_decide_eq_true hlen
    let cx : Cx := YF P own w
    refine calls_of_wp hf hb ?_;refine wp_mono (CI hE hm hh (yE hE hm hn hh k) c cx rfl _ (st0 args) hs _ _ w (Q4 (P := P) (nt := fn.ntmps) hG hown ha hlen)) ?_;rintro e a' w' ⟨st', ρ', hr', hq, _⟩;unfold BSW at hq;split at hq
    · rename_i r' he hres
      cases hq;obtain ⟨vc, h1, h2, h3⟩ := BD3 hr' rfl hres;rcases pW he with rfl | rfl
      · exact ⟨hr'.defers, _, h1, vc, rfl, hr'.inv.below.toB, h2, h3⟩
      · exact ⟨hr'.defers, _, h1, vc, rfl, hr'.inv.below.toB, h2, h3⟩
    · exact hq.elim
  · exact hs.elim
def AVN : Fn -> Bool
  | .heap _ => false
  | _ => true
def aQ : ∀ {l : List (FuncId × Fn)}, l.all (λx => AVN x.2) = true -> iH (Env.of l)
  | [], _, f, g, h => by simp [Env.of] at h
  | (k, x) :: l, hl, f, g, h => by
    simp only [List.all_cons, ac] at hl;simp only [Env.of] at h;split at h
    · cases h; simp [AVN] at hl
    · exact aQ hl.2 f g h
end
end Go.Pv
