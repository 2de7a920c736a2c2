/-
  The pure evaluator, part c: operations on values.
-/
import Derived.Test.YtepoplfbgaoggaaGreatDoorOnewb
import Derived.Laws.Strings
import Derived.Laws.Build
set_option linter.defProp false
set_option linter.unusedSimpArgs false
namespace Go.Pv
open Go Go.RowKit
def BQF (x y : iII) : (x.toList == y.toList) = decide (x = y) := by
  rw [Bool.eq_iff_iff, ByteArray.toList_eq, ByteArray.toList_eq];constructor
  · obtain ⟨⟨x⟩⟩ := x
    simp_all
  · simp_all
def AEB (a b : Int) : (a == b) = decide (a = b) := rfl
def bool_beq (a b : Bool) : (a == b) = decide (a = b) := by cases a <;> cases b <;> rfl
def cK (x y : iII) : Bool := Op.bytesLess x.data.toList y.data.toList
def BE0 (x y : iII) : Op.bytesLess x.toList y.toList = cK x y := by simp only [cK, ByteArray.toList_eq]
def AEA (op : BinOp) (k : IntKind) (x y : Int) : Option Value :=
  match op with
  | .add => some (.int k (k.wrap (x + y)))
  | .sub => some (.int k (k.wrap (x - y)))
  | .mul => some (.int k (k.wrap (x * y)))
  | .quo => if y = 0 then none else some (.int k (k.wrap (x.tdiv y)))
  | .rem => if y = 0 then none else some (.int k (x.tmod y))
  | .eql => some (.bool (decide (x = y)))
  | .neq => some (.bool (!decide (x = y)))
  | .lss => some (.bool (decide (x < y)))
  | .leq => some (.bool (decide (x <= y)))
  | .gtr => some (.bool (decide (y < x)))
  | .geq => some (.bool (decide (y <= x)))
  | .and => some (.int k (bits .and k x y))
  | .or => some (.int k (bits .or k x y))
  | .xor => some (.int k (bits .xor k x y))
  | .andNot => some (.int k (bits .andNot k x y))
  | _ => none
def AT7 (op : BinOp) (x y : iII) : Option Value :=
  match op with
  | .add => if ((x.size + y.size : Nat) : Int) <= 9223372036854775807 then some (.string (x ++ y)) else none
  | .eql => some (.bool (decide (x = y)))
  | .neq => some (.bool (!decide (x = y)))
  | .lss => some (.bool (cK x y))
  | .leq => some (.bool (cK x y || decide (x = y)))
  | .gtr => some (.bool (!(cK x y || decide (x = y))))
  | .geq => some (.bool (!cK x y))
  | _ => none
def AZF (P : Program) (op : BinOp) (t : TypeId) (x y : Value) : Option Value :=
  match x, y with
  | .int k a, .int k' b =>
    match op with
    | .shl => if 0 <= b /\ b <= k.bits then some (.int k (k.wrap (a * 2 ^ b.toNat))) else none
    | .shr => if 0 <= b /\ b <= k.bits then some (.int k (a / 2 ^ b.toNat)) else none
    | _ => if k = k' then AEA op k a b else none
  | .string a, .string b => AT7 op a b
  | .bool a, .bool b =>
    match P.underlying t, op with
    | some .bool, .eql => some (.bool (decide (a = b)))
    | some .bool, .neq => some (.bool (!decide (a = b)))
    | _, _ => none
  | _, _ => none
variable {P:Program}
def G8 {t : TypeId} (hu : P.underlying t = some .bool) (w : World) (d : Nat) (a b : Bool) : (Op.equalIn (d + 1) t (.bool a) (.bool b)).run P w = .ok (decide (a = b)) w := by
  rw [Op.equalIn];simp only [Sem.run_bind, run_underlying hu, Result.andThen_ok, Sem.run_pure, bool_beq]
def TR {t : TypeId} (hu : P.underlying t = some .bool) (w : World) (a b : Bool) : (Op.equal t (.bool a) (.bool b)).run P w = .ok (decide (a = b)) w := G8 hu w 9999 a b
variable {y:Value}
def A7O {op : BinOp} {t : TypeId} {x v:Value} (h : AZF P op t x y = some v) (w : World) (p q : Operand) :
    (do eqGuard op t p q x y; binOp op t x y : Sem Value).run P w = .ok v w := by
  unfold AZF at h;split at h
  · rename_i k a k' b
    rw [eqGuard_at_int];split at h
    · split at h
      · rename_i hb
        cases h;simp [binOp, shift_shl k k' a b hb.1 hb.2]
      · cases h
    · split at h
      · rename_i hb
        cases h;simp [binOp, shift_shr k k' a b hb.1 hb.2]
      · cases h
    · split at h
      · rename_i hk
        subst hk;unfold AEA at h;split at h <;> first
          | (cases h; simp only [binOp_add, binOp_sub, binOp_mul, binOp_quo, binOp_rem, binOp_and, binOp_or, binOp_xor, binOp_andNot, binOp_eql, binOp_neq, binOp_lss, binOp_leq, binOp_gtr, binOp_geq, Op.intArith, Op.intCmp, intBits_and, intBits_or, intBits_xor, intBits_andNot, AEB, bne, Sem.run_bind, Sem.run_pure, Result.andThen_ok]; done)
          | (cases h; simp only [binOp_add, binOp_sub, binOp_mul, binOp_quo, binOp_rem, binOp_and, binOp_or, binOp_xor, binOp_andNot, binOp_eql, binOp_neq, binOp_lss, binOp_leq, binOp_gtr, binOp_geq, Op.intArith, Op.intCmp, AEB, bne, Sem.run_bind, Sem.run_pure, Result.andThen_ok]; rfl)
          | (split at h; · cases h
             · rename_i h0; cases h; simp [binOp_quo, binOp_rem, Op.intDiv, h0])
          | cases h
      · cases h
  · rename_i a b
    rw [eqGuard_at_string];unfold AT7 at h;split at h
    · split at h
      · cases h
        have : ¬ (9223372036854775807 : Int) < (a.size : Int) + (b.size : Int) := by omega
        simp [binOp, Op.stringOp, this]
      · cases h
    all_goals first
      | (cases h; simp [binOp, Op.stringOp, BQF, BE0]; done)
      | cases h
  · rename_i a b
    split at h
    · rename_i hu
      have he := TR hu w a b;show (do pure (); pure (.bool (<- Op.equal t (.bool a) (.bool b))) : Sem Value).run P w = _;simp_all
    · rename_i hu
      have he := TR hu w a b;show (do pure (); pure (.bool (!(<- Op.equal t (.bool a) (.bool b)))) : Sem Value).run P w = _;simp_all
    · cases h
  · cases h
def BOS (x : D) : Option Bool :=
  match x with
  | .p (.v (.slice none 0 0)) => some true
  | .p (.ne _) => some false
  | .p (.sl _ (_ :: _)) => some false
  | .bs _ _ _ => some false
  | _ => none
def AID (P : Program) (op : BinOp) (t : TypeId) (x y : D) : Option D :=
  match x, y with
  | x, .p (.v (.slice none 0 0)) =>
    match pM P t, BOS x, op with
    | some _, some b, .eql => some (.p (.v (.bool b)))
    | some _, some b, .neq => some (.p (.v (.bool (!b))))
    | _, _, _ => none
  | .p (.v a), .p (.v b) => (AZF P op t a b).map λv => .p (.v v)
  | _, _ => none
def unD (op : UnOp) (x : D) : Option D :=
  match op, x with
  | .not, .p (.v (.bool b)) => some (.p (.v (.bool (!b))))
  | .neg, .p (.v (.int k n)) => some (.p (.v (.int k (k.wrap (0 - n)))))
  | .xor, .p (.v (.int k n)) => some (.p (.v (.int k (bits .xor k (if k.signed then -1 else k.max) n))))
  | _, _ => none
section
variable {P : Program} {w : World} {own : Nat -> Prop} {ρ : Nat -> Option Loc}
def AVL {d : D} {x : Value} {b : Bool} (hx : Rd w own ρ d x) (h : BOS d = some b) : ∃ a n c, x = .slice a n c /\ a.isNone = b := by
  unfold BOS at h;split at h
  · cases h
    cases hx with
    | p _ _ hx =>
    cases hx;simp
  · cases h
    cases hx with
    | p _ _ hx =>
    cases hx with
    | ne _ a cap _ => exact ⟨some a, 0, cap, rfl, rfl⟩
  · cases h
    cases hx with
    | p _ _ hx =>
    cases hx with
    | sl _ _ sz b o cap => exact ⟨_, _, cap, rfl, rfl⟩
  · cases h
    cases hx with
    | bs _ _ _ l => exact ⟨_, _, _, rfl, rfl⟩
  · cases h
def zF {t e : TypeId} (hu : P.underlying t = some (.slice e)) (a : Option Addr) (n c : Nat) : (Op.equal t (.slice a n c) (.slice none 0 0)).run P w = .ok a.isNone w := by
  unfold Op.equal Op.maxDepth;rw [show (10000 : Nat) = 9999 + 1 from rfl, Op.equalIn];simp only [Sem.run_bind, run_underlying hu, Result.andThen_ok];cases a <;> simp
def ACT {op : BinOp} {t : TypeId} {d e r : D} {x:Value} (hx : Rd w own ρ d x) (hy : Rd w own ρ e y) (h : AID P op t d e = some r) (p q : Operand) :
    ∃ v, (do eqGuard op t p q x y; binOp op t x y : Sem Value).run P w = .ok v w /\ Rd w own ρ r v := by
  unfold AID at h;split at h
  · split at h
    · rename_i e b hel hb
      cases h;have hu := jV hel;cases hy with
      | p _ _ hy =>
      cases hy;obtain ⟨a, n, c, rfl, ha⟩ := AVL hx hb;refine ⟨.bool b, ?_, .p _ _ (.v _)⟩;show (do pure (.bool (<- Op.equal t (.slice a n c) (.slice none 0 0))) : Sem Value).run P w = _;simp only [Sem.run_bind, zF hu, Result.andThen_ok, Sem.run_pure, ha]
    · rename_i e b hel hb
      cases h;have hu := jV hel;cases hy with
      | p _ _ hy =>
      cases hy;obtain ⟨a, n, c, rfl, ha⟩ := AVL hx hb;refine ⟨.bool (!b), ?_, .p _ _ (.v _)⟩;show (do pure (.bool (!(<- Op.equal t (.slice a n c) (.slice none 0 0)))) : Sem Value).run P w = _;simp only [Sem.run_bind, zF hu, Result.andThen_ok, Sem.run_pure, ha]
    · cases h
  · simp only [aa] at h
    obtain ⟨v, h1, rfl⟩ := h;cases hx with
    | p _ _ hx =>
    cases hx;cases hy with
    | p _ _ hy =>
    cases hy;exact ⟨v, A7O h1 w p q, .p _ _ (.v v)⟩
  · cases h
def BQH {op : UnOp} {d r : D} {x : Value} (hx : Rd w own ρ d x) (h : unD op d = some r) : ∃ v, (Op.unary op x).run P w = .ok v w /\ Rd w own ρ r v := by
  unfold unD at h;split at h
  · cases h
    cases hx with
    | p _ _ hx =>
    cases hx;exact ⟨_, by simp [Op.unary], .p _ _ (.v _)⟩
  · cases h
    cases hx with
    | p _ _ hx =>
    cases hx;exact ⟨_, by simp only [Op.unary, Op.intArith, Sem.run_pure], .p _ _ (.v _)⟩
  · cases h
    cases hx with
    | p _ _ hx =>
    cases hx;exact ⟨_, by simp only [Op.unary, intBits_xor, Sem.run_pure], .p _ _ (.v _)⟩
  · cases h
def AAK (P : Program) (t : TypeId) (d : D) (o : Nat) : Option D :=
  match EA P t, tsz? P t with
  | some ag, some z =>
    match d with
    | .p (.agg cs) => if ag then (if o + z <= cs.length then some (.p (.agg ((cs.drop o).take z))) else none) else (cs[o]?).map .p
    | .p (.v (.agg vs)) => if ag then (if o + z <= vs.size then some (.p (.v (.agg (vs.extract o (o + z))))) else none) else (vs[o]?).map λv => .p (.v v)
    | .agg cs => if ag then (if o + z <= cs.length then some (.agg ((cs.drop o).take z)) else none) else cs[o]?
    | _ => none
  | _, _ => none
def JJ {t : TypeId} {d r : D} {x : Value} {o : Nat} (hx : Rd w own ρ d x) (h : AAK P t d o = some r) :
    ∃ cs v, x = .agg cs /\ (part t cs o).run P w = .ok v w /\ Rd w own ρ r v := by
  unfold AAK at h;split at h
  · rename_i ag z hag hz
    obtain ⟨td, hu, rfl⟩ := SU hag;have key : ∀ (α : Type) (R : α -> Value -> Prop) (cs : List α) (vs : Array Value), dO R cs vs ->
        ((AH0 td = true -> o + z <= cs.length -> ∃ v, (part t vs o).run P w = .ok (.agg v) w /\ dO R ((cs.drop o).take z) v) /\
         (∀ c, AH0 td = false -> cs[o]? = some c -> ∃ v, (part t vs o).run P w = .ok v w /\ R c v)) := by
      intro α R cs vs hr;refine ⟨λha hle => ⟨vs.extract o (o + z), by simp [part, wS w hu, ha, run_sizeOf? w hz], hr.extract o z hle⟩, λc ha hc => ?_⟩;obtain ⟨v, h1, h2⟩ := hr.get? hc;exact ⟨v, by simp [part, wS w hu, ha, h1], h2⟩
    split at h
    · rename_i cs
      cases hx with
      | p _ _ hx =>
      cases hx with
      | agg _ vs h1 h2 =>
      have k := key _ (cS w own) cs vs ⟨h1, h2⟩;split at h
      · rename_i ha
        split at h
        · rename_i hle
          cases h;obtain ⟨v, h3, h4⟩ := k.1 ha hle;exact ⟨vs, _, rfl, h3, .p _ _ (.agg _ _ h4.1 h4.2)⟩
        · cases h
      · rename_i ha
        simp only [aa] at h;obtain ⟨c, hc, rfl⟩ := h;obtain ⟨v, h3, h4⟩ := k.2 c (by simpa using ha) hc;exact ⟨vs, _, rfl, h3, .p _ _ h4⟩
    · rename_i vs
      cases hx with
      | p _ _ hx =>
      cases hx;have k := key _ (λ(a b : Value) => a = b) vs.toList vs ⟨by simp, λi hi => by
        have hi' : i < vs.size := by simpa using hi
        simp [Array.getD, hi']⟩
      split at h
      · rename_i ha
        split at h
        · cases h
          refine ⟨vs, _, rfl, ?_, .p _ _ (.v _)⟩;simp [part, wS w hu, ha, run_sizeOf? w hz]
        · cases h
      · simp only [aa] at h
        obtain ⟨c, hc, rfl⟩ := h;refine ⟨vs, c, rfl, ?_, .p _ _ (.v _)⟩;simp_all
    · rename_i cs
      cases hx with
      | agg _ vs h1 h2 =>
      have k := key _ (Rd w own ρ) cs vs ⟨h1, h2⟩;split at h
      · rename_i ha
        split at h
        · rename_i hle
          cases h;obtain ⟨v, h3, h4⟩ := k.1 ha hle;exact ⟨vs, _, rfl, h3, .agg _ _ h4.1 h4.2⟩
        · cases h
      · simp_all
    · cases h
  · cases h
def AUZ (P : Program) (t : TypeId) (i : Nat) : Option (TypeId × Nat) :=
  match P.underlying t with
  | some (.struct fs) => (fs[i]?).map λf => (f.type, f.offset)
  | _ => none
def LO (P : Program) (t : TypeId) (d : D) (i : Nat) : Option D :=
  match AUZ P t i with
  | some (ft, o) => AAK P ft d o
  | none => none
def AC6 {t : TypeId} {d r : D} {x : Value} {i : Nat} (hx : Rd w own ρ d x) (h : LO P t d i = some r) : ∃ v, (Instr.field t x i).run P w = .ok v w /\ Rd w own ρ r v := by
  unfold LO at h;split at h
  · rename_i ft o hto
    obtain ⟨cs, v, rfl, h1, h2⟩ := JJ hx h;refine ⟨v, ?_, h2⟩;unfold AUZ at hto;split at hto
    · rename_i fs hu
      simp only [aa, Prod.mk.injEq] at hto;obtain ⟨f, hf, rfl, rfl⟩ := hto;simp [Instr.field, run_underlying hu, hf, asAgg, h1]
    · cases hto
  · cases h
def L5 (P : Program) (t : TypeId) (d i : D) : Option D :=
  match i with
  | .p (.v (.int _ i)) =>
    if i < 0 then none else
    match d with
    | .p (.v (.string s)) =>
      match P.underlying t with
      | some .string => (s.data[i.toNat]?).map λb => .p (.v (.int .u8 b.toNat))
      | _ => none
    | _ =>
      match AH9 P t with
      | some (m, e) =>
        match tsz? P e with
        | some z => if i.toNat < m then AAK P e d (i.toNat * z) else none
        | none => none
      | none => none
  | _ => none
def A1L {t : TypeId} {d i r : D} {x:Value} (hx : Rd w own ρ d x) (hi : Rd w own ρ i y) (h : L5 P t d i = some r) : ∃ v, (Instr.index t x y).run P w = .ok v w /\ Rd w own ρ r v := by
  unfold L5 at h;split at h
  · rename_i k i
    cases hi with
    | p _ _ hi =>
    cases hi;split at h
    · cases h
    · have hnn : 0 <= i := by omega
      split at h
      · rename_i s
        split at h
        · rename_i hu
          simp only [aa] at h;obtain ⟨b, hb, rfl⟩ := h;cases hx with
          | p _ _ hx =>
          cases hx;have hs : s[i.toNat]? = some b := by
            obtain ⟨h1, h2⟩ := Array.getElem?_eq_some_iff.1 hb;have h1' : i.toNat < s.size := h1;rw [getElem?_pos s i.toNat h1'];exact congrArg some h2
          refine ⟨.int .u8 b.toNat, ?_, .p _ _ (.v _)⟩;simp [Instr.index, asIntOf, run_underlying hu, hnn, hs]
        · cases h
      · split at h
        · rename_i m e har
          have hu := S1 har;split at h
          · rename_i z hz
            split at h
            · obtain ⟨cs, v, rfl, h1, h2⟩ := JJ hx h
              refine ⟨v, ?_, h2⟩;have hl : i < (m : Int) := by omega
              simp [Instr.index, asIntOf, run_underlying hu, hnn, hl, run_sizeOf? w hz, h1]
            · cases h
          · cases h
        · cases h
  · cases h
def TT (d : D) (i : Nat) : Option D :=
  match d with
  | .cB ds => ds[i]?
  | .p (.cB ts) => (ts[i]?).map .p
  | .p (.v (.tuple vs)) => (vs[i]?).map λv => .p (.v v)
  | _ => none
def AIV {d r : D} {x : Value} {i : Nat} (hx : Rd w own ρ d x) (h : TT d i = some r) : ∃ v, (Instr.extract x i).run P w = .ok v w /\ Rd w own ρ r v := by
  unfold TT at h;split at h
  · cases hx with
    | cB _ vs h1 h2 =>
    obtain ⟨v, h3, h4⟩ := dO.get? (R := Rd w own ρ) ⟨h1, h2⟩ h;exact ⟨v, by simp [Instr.extract, h3], h4⟩
  · simp only [aa] at h
    obtain ⟨c, hc, rfl⟩ := h;cases hx with
    | p _ _ hx =>
    cases hx with
    | cB _ vs h1 h2 =>
    obtain ⟨v, h3, h4⟩ := dO.get? (R := cS w own) ⟨h1, h2⟩ hc;exact ⟨v, by simp [Instr.extract, h3], .p _ _ h4⟩
  · simp only [aa] at h
    obtain ⟨c, hc, rfl⟩ := h;cases hx with
    | p _ _ hx =>
    cases hx;exact ⟨c, by simp [Instr.extract, hc], .p _ _ (.v _)⟩
  · cases h
end
end Go.Pv
