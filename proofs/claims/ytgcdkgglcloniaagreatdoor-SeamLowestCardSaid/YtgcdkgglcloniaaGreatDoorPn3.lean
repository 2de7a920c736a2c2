/-
  strings.Split on typed data.
  Names and identifiers.
  SeamChecks: Check answers as the reference does.
-/
import Derived.Test.YtgcdkgglcloniaaGreatDoorPn1
import Derived.Test.YtgcdkgglcloniaaGreatDoorPgs
import Derived.Test.YtgcdkgglcloniaaGreatDoorPsl
import Derived.Laws.RangeAny
import Derived.Test.YtgcdkgglcloniaaGreatDoorPa18
import Derived.Test.YtgcdkgglcloniaaGreatDoorPkj
set_option linter.unusedSimpArgs false
set_option linter.unusedVariables false
set_option maxRecDepth 100000
namespace Go.Pv
open Go Go.Proofs
abbrev q_b : Sh := [(false, .bool)]
abbrev q_ls : Sh := [(false, .li .str)]
def sp_split (x : ByteArray × ByteArray) : Option T := match decide (x.1.size < 4294967281), decide (1 ≤ x.2.size) with
  | true, true => some (Sh.enc q_ls (Lib.splitB x.2 0 (Lib.countB x.1 x.2) x.1))
  | _, _ => none
noncomputable def g_splitS : List T → Option T := gS [(false, .str), (false, .str)] sp_split
theorem g_splitS_at {a b : ByteArray} : g_splitS [T.v (Value.string a), T.v (Value.string b)] = sp_split (a, b) := gS_enc (s := [(false, .str), (false, .str)]) rfl (a, b) rfl
theorem fn_splitS : PureFn Tryz.prog 53 g_splitS := by
  refine ⟨fn_split.entry, fun w own args vs r hG ho ha hg => ?_⟩
  obtain ⟨⟨a, b⟩, rfl, hx⟩ := gS_spec hg
  unfold sp_split at hx
  split at hx
  · rename_i h1 h2
    cases hx
    have hs : gSplit [.v (.string a), .v (.string b)] = some (.sl true ((Lib.splitB b 0 (Lib.countB a b) a).map fun x => [.v (.string x)])) := by
      unfold gSplit
      simp only [h1, h2]
    refine (fn_split.calls w own _ vs _ hG ho ha hs).mono ?_
    rintro e w' ⟨v, rfl, hr, hb⟩
    exact ⟨v, rfl, hr.canon 0, hb⟩
  · cases hx
end Go.Pv
set_option linter.unusedSimpArgs false
set_option linter.unusedVariables false
set_option maxRecDepth 100000
namespace Go.Pv
open Go Go.Proofs
def letterI (n : Int) : Bool := (decide (97 ≤ n) && decide (n ≤ 122)) || (decide (65 ≤ n) && decide (n ≤ 90))
def digitI (n : Int) : Bool := decide (48 ≤ n) && decide (n ≤ 57)
/-- The byte at a place may stand there in a name. -/
def nameAt (i : Nat) (b : UInt8) : Bool := letterI b.toNat || (decide (i ≠ 0) && (digitI b.toNat || decide ((b.toNat : Int) = 95) || decide ((b.toNat : Int) = 45)))
def isName (s : ByteArray) : Bool := decide (s.size ≠ 0) && decide (s.size ≤ 16) && (List.range s.size).all fun i => match s.data[i]? with | some b => nameAt i b | none => true
def sp_letter (n : Int) : Option T := some (Sh.enc q_b (letterI n))
def sp_digit (n : Int) : Option T := some (Sh.enc q_b (digitI n))
def sp_isName04 (s : ByteArray) : Option T := some (Sh.enc q_b (isName s))
abbrev sp_isName := sp_isName04
def sumI (l : List ByteArray) : Int := (l.length : Int) - 1 + sumSz l
def sp_parts (s : ByteArray) : Option T := match decide (s.size ≤ 300) with
  | true => some (Sh.enc q_ls (piecesOf s))
  | false => none
def sp_names (l : List ByteArray) : Option T := match decide (l.length ≤ 65) && decide (sumSz l ≤ 64) with
  | true => some (Sh.enc q_b (l.all isName && (decide (1 ≤ l.length) && decide (l.length ≤ 8) && decide (sumI l ≤ 64))))
  | false => none
def isId (s : ByteArray) : Bool := decide (s.size ≤ 64) && decide ((piecesOf s).length ≤ 8) && (piecesOf s).all isName
def sp_isId (s : ByteArray) : Option T := some (Sh.enc q_b (isId s))
def sp_isId04 (s : ByteArray) : Option T := match decide (s.size ≤ 300) with
  | true => some (Sh.enc q_b (isId s))
  | false => none
theorem all_range {n : Nat} {f : Nat → Bool} : (List.range n).all f = true ↔ ∀ i, i < n → f i = true := by simp
theorem isName_of {s : ByteArray} (h0 : s.size ≠ 0) (h1 : s.size ≤ 16) (h2 : ∀ i b, s.data[i]? = some b → nameAt i b = true) : isName s = true := by
  unfold isName
  simp only [h0, h1, decide_true, Bool.true_and, Bool.and_eq_true, all_range, ne_eq, not_false_eq_true, true_and]
  intro i hi
  split
  · rename_i b hb; exact h2 i b hb
  · rfl
theorem isName_not {s : ByteArray} (h : s.size = 0 ∨ 16 < s.size ∨ ∃ i b, s.data[i]? = some b ∧ nameAt i b = false) : isName s = false := by
  rw [Bool.eq_false_iff]
  intro hn
  unfold isName at hn
  simp only [Bool.and_eq_true, all_range, decide_eq_true_eq] at hn
  rcases h with h | h | ⟨i, b, hb, hf⟩
  · exact hn.1.1 h
  · have := hn.1.2; omega
  · have hi : i < s.size := (Array.getElem?_eq_some_iff.1 hb).1
    have := hn.2 i hi
    rw [hb] at this
    simp only [hf] at this
    cases this
theorem nameAt_zero (b : UInt8) : nameAt 0 b = letterI b.toNat := by simp [nameAt]
theorem byteK_at {s : ByteArray} {k : Nat} {b : UInt8} (h : s.data[k]? = some b) {K : Int → Prop} (hk : K b.toNat) : byteK s (k : Int) K := ⟨b, by omega, by rwa [Int.toNat_natCast], hk⟩
theorem byteK_zero {s : ByteArray} {b : UInt8} (h : s.data[0]? = some b) {K : Int → Prop} (hk : K b.toNat) : byteK s 0 K := ⟨b, by omega, h, hk⟩
theorem emp_iff {s : ByteArray} : s = { data := #[] } ↔ s.size = 0 := ⟨fun e => by subst e; rfl, fun e => ByteArray.ext (Array.eq_empty_of_size_eq_zero e)⟩
theorem get_lt {s : ByteArray} {k : Nat} (h : k < s.size) : ∃ b, s.data[k]? = some b := ⟨s.data[k]'h, by simp⟩
theorem bF (b : Bool) : T.v (Value.bool b) = Sh.enc q_b b := rfl
set_option maxRecDepth 100000
noncomputable def E_isName : Env := Env.of []
def H_isName : FuncId → Hint := fun f => match f == 40 with | true => ⟨fun r => match r == 4 with | true => .inv [.sit 0] | false => .none, fun i j => match i == 6 && j == 6 with | true => some [.val 5 false .bool, .fix 0] | false => match i == 7 && j == 7 with | true => some [.val 6 false .bool, .fix 0] | false => none, fun _ => none⟩ | false => noHint
theorem Eok_isName : EnvOk Tryz.prog E_isName := EnvOk.nil _
def F_isName (a0 : ByteArray) (R : T → Prop) : Prop :=
 iteP (decide (a0 = { data := #[] })) (R (T.v (Value.bool false)))
 (iteP (decide (16 < (↑(ByteArray.size a0) : Int))) (R (T.v (Value.bool false)))
 (loopK ((ByteArray × Nat) × PUnit)
 (fun (X0 : (ByteArray × Nat) × PUnit → Prop) (s1 : (ByteArray × Nat) × PUnit) =>
 iteP (decide (s1.fst.snd < s1.fst.fst.size))
 (joinK (Bool × PUnit × PUnit)
 (fun (X2 : Bool × PUnit × PUnit → Prop) =>
 iteP (decide (65 ≤ (↑(Utf8.decode s1.fst.fst s1.fst.snd).fst : Int)))
 (iteP (decide ((↑(Utf8.decode s1.fst.fst s1.fst.snd).fst : Int) ≤ 90))
 (sameK (Box.sit s1.fst.fst (s1.fst.snd + (Utf8.decode s1.fst.fst s1.fst.snd).snd))
 (Box.sit s1.fst.fst (s1.fst.snd + (Utf8.decode s1.fst.fst s1.fst.snd).snd))
 (X2 (true, (), ())))
 (iteP (decide (97 ≤ (↑(Utf8.decode s1.fst.fst s1.fst.snd).fst : Int)))
 (sameK (Box.sit s1.fst.fst (s1.fst.snd + (Utf8.decode s1.fst.fst s1.fst.snd).snd))
 (Box.sit s1.fst.fst (s1.fst.snd + (Utf8.decode s1.fst.fst s1.fst.snd).snd))
 (X2 (decide ((↑(Utf8.decode s1.fst.fst s1.fst.snd).fst : Int) ≤ 122), (), ())))
 (sameK (Box.sit s1.fst.fst (s1.fst.snd + (Utf8.decode s1.fst.fst s1.fst.snd).snd))
 (Box.sit s1.fst.fst (s1.fst.snd + (Utf8.decode s1.fst.fst s1.fst.snd).snd))
 (X2 (false, (), ())))))
 (iteP (decide (97 ≤ (↑(Utf8.decode s1.fst.fst s1.fst.snd).fst : Int)))
 (sameK (Box.sit s1.fst.fst (s1.fst.snd + (Utf8.decode s1.fst.fst s1.fst.snd).snd))
 (Box.sit s1.fst.fst (s1.fst.snd + (Utf8.decode s1.fst.fst s1.fst.snd).snd))
 (X2 (decide ((↑(Utf8.decode s1.fst.fst s1.fst.snd).fst : Int) ≤ 122), (), ())))
 (sameK (Box.sit s1.fst.fst (s1.fst.snd + (Utf8.decode s1.fst.fst s1.fst.snd).snd))
 (Box.sit s1.fst.fst (s1.fst.snd + (Utf8.decode s1.fst.fst s1.fst.snd).snd))
 (X2 (false, (), ())))))
 fun (s3 : Bool × PUnit × PUnit) =>
 joinK (Bool × PUnit × PUnit)
 (fun (X4 : Bool × PUnit × PUnit → Prop) =>
 iteP (decide (48 ≤ (↑(Utf8.decode s1.fst.fst s1.fst.snd).fst : Int)))
 (iteP (decide ((↑(Utf8.decode s1.fst.fst s1.fst.snd).fst : Int) ≤ 57))
 (sameK (Box.sit s1.fst.fst (s1.fst.snd + (Utf8.decode s1.fst.fst s1.fst.snd).snd))
 (Box.sit s1.fst.fst (s1.fst.snd + (Utf8.decode s1.fst.fst s1.fst.snd).snd))
 (X4 (true, (), ())))
 (iteP (decide ((↑(Utf8.decode s1.fst.fst s1.fst.snd).fst : Int) = 95))
 (sameK (Box.sit s1.fst.fst (s1.fst.snd + (Utf8.decode s1.fst.fst s1.fst.snd).snd))
 (Box.sit s1.fst.fst (s1.fst.snd + (Utf8.decode s1.fst.fst s1.fst.snd).snd))
 (X4 (true, (), ())))
 (sameK (Box.sit s1.fst.fst (s1.fst.snd + (Utf8.decode s1.fst.fst s1.fst.snd).snd))
 (Box.sit s1.fst.fst (s1.fst.snd + (Utf8.decode s1.fst.fst s1.fst.snd).snd))
 (X4 (decide ((↑(Utf8.decode s1.fst.fst s1.fst.snd).fst : Int) = 45), (), ())))))
 (iteP (decide ((↑(Utf8.decode s1.fst.fst s1.fst.snd).fst : Int) = 95))
 (sameK (Box.sit s1.fst.fst (s1.fst.snd + (Utf8.decode s1.fst.fst s1.fst.snd).snd))
 (Box.sit s1.fst.fst (s1.fst.snd + (Utf8.decode s1.fst.fst s1.fst.snd).snd))
 (X4 (true, (), ())))
 (sameK (Box.sit s1.fst.fst (s1.fst.snd + (Utf8.decode s1.fst.fst s1.fst.snd).snd))
 (Box.sit s1.fst.fst (s1.fst.snd + (Utf8.decode s1.fst.fst s1.fst.snd).snd))
 (X4 (decide ((↑(Utf8.decode s1.fst.fst s1.fst.snd).fst : Int) = 45), (), ())))))
 fun (s5 : Bool × PUnit × PUnit) =>
 iteP (!s3.fst)
 (iteP (decide ((↑s1.fst.snd : Int) = 0)) (R (T.v (Value.bool false)))
 (iteP (!s5.fst) (R (T.v (Value.bool false)))
 (X0 ((s1.fst.fst, s1.fst.snd + (Utf8.decode s1.fst.fst s1.fst.snd).snd), ()))))
 (X0 ((s1.fst.fst, s1.fst.snd + (Utf8.decode s1.fst.fst s1.fst.snd).snd), ())))
 (R (T.v (Value.bool true))))
 ((a0, 0), ())))
theorem F_isName_eq (a0 : ByteArray) (R : T → Prop) : sxTop stdC2 Tryz.prog E_isName H_isName 8 40 [encV false Sy.str a0] R = F_isName a0 R := by kernel_rfl
abbrev s_isName : Sh := [(false, Sy.str)]
abbrev r_isName : Sh := [(false, Sy.bool)]
theorem r_isName_call (y : Sh.den r_isName) (K : Sh.den r_isName → Prop) : callK r_isName (some (Sh.enc r_isName y)) K = K y := callK_enc rfl y K

noncomputable def g_isName : List T → Option (T) := gS s_isName sp_isName
theorem g_isName_at {a0 : ByteArray} : g_isName [T.v (Value.string a0)] = sp_isName (a0) := gS_enc (s := s_isName) rfl (a0) rfl
theorem g_isName_op {u0} : g_isName [T.v (Value.string u0)] = sp_isName (u0) := gS_enc (s := s_isName) rfl (u0) rfl
theorem of_isName (h : ∀ (a0 : ByteArray) (r : T), sp_isName (a0) = some r → BdSh s_isName (a0) → F_isName a0 (fun y => y = r)) : PureFn Tryz.prog 40 g_isName :=
  pureFn_S (E := E_isName) (Hs := H_isName) Eok_isName mixed' plain' (noHeap_of rfl) 8 ⟨_, _, Tryz.func40, rfl⟩ rfl fun x r h1 h2 => by
    let a0 := x
    rw [show Sh.encs s_isName (a0) = [encV false Sy.str a0] from rfl, F_isName_eq]
    exact h a0 r h1 h2

theorem letter_tail (c : Int) {K : Bool × PUnit × PUnit → Prop} (hX : K (letterI c, (), ())) : joinK (Bool × PUnit × PUnit) (fun X => iteP (decide (65 ≤ c)) (iteP (decide (c ≤ 90)) (X (true, (), ())) (iteP (decide (97 ≤ c)) (X (decide (c ≤ 122), (), ())) (X (false, (), ())))) (iteP (decide (97 ≤ c)) (X (decide (c ≤ 122), (), ())) (X (false, (), ())))) K := by
  simp only [iteP_def, joinK_def]
  unfold letterI at hX
  by_cases h1 : 65 ≤ c <;> by_cases h2 : c ≤ 90 <;> by_cases h3 : 97 ≤ c <;> by_cases h4 : c ≤ 122 <;> simp [h1, h2, h3, h4] at hX ⊢ <;> first | exact hX | omega
theorem further_tail (c : Int) {K : Bool × PUnit × PUnit → Prop} (hX : K (digitI c || decide (c = 95) || decide (c = 45), (), ())) : joinK (Bool × PUnit × PUnit) (fun X => iteP (decide (48 ≤ c)) (iteP (decide (c ≤ 57)) (X (true, (), ())) (iteP (decide (c = 95)) (X (true, (), ())) (X (decide (c = 45), (), ())))) (iteP (decide (c = 95)) (X (true, (), ())) (X (decide (c = 45), (), ())))) K := by
  simp only [iteP_def, joinK_def]
  unfold digitI at hX
  by_cases h1 : 48 ≤ c <;> by_cases h2 : c ≤ 57 <;> by_cases h3 : c = 95 <;> simp [h1, h2, h3] at hX ⊢ <;> first | exact hX | omega
theorem fn_isName : PureFn Tryz.prog 40 g_isName := of_isName fun s r h hb => by
  have h' : some (Sh.enc q_b (isName s)) = some r := h
  cases h'
  clear h
  unfold F_isName
  by_cases h0 : s.size = 0
  · exact iteP_yes (emp_iff.2 h0) (by rw [isName_not (.inl h0)]; rfl)
  refine iteP_no (fun e => h0 (emp_iff.1 e)) ?_
  by_cases h16 : 16 < s.size
  · exact iteP_yes (by omega) (by rw [isName_not (.inr (.inl h16))]; rfl)
  refine iteP_no (by omega) ?_
  refine loopK_ix s.size (fun k t => t = ((s, k), ()) ∧ ∀ i b, i < k → s.data[i]? = some b → nameAt i b = true) ⟨rfl, by simp⟩ ?_
  rintro X k t hk ⟨rfl, hno⟩ hX
  simp only [sameK_self]
  by_cases hlt : k < s.size
  · refine iteP_yes hlt ?_
    have hb : s.data[k]? = some (s[k]'hlt) := by
      rw [Array.getElem?_eq_getElem hlt]; rfl
    refine letter_tail (Utf8.decode s k).1 ?_
    refine further_tail (Utf8.decode s k).1 ?_
    dsimp only
    have stop : nameAt k (s[k]'hlt) = false → T.v (Value.bool false) = Sh.enc q_b (isName s) := fun hn => by rw [isName_not (.inr (.inr ⟨k, _, hb, hn⟩))]; rfl
    by_cases hasc : (s[k]'hlt).toNat < 128
    · have hd := decode_ascii s k hlt hasc
      have go : nameAt k (s[k]'hlt) = true → X ((s, k + (Utf8.decode s k).2), ()) := fun hn => by
        rw [hd]
        exact hX _ hlt ⟨rfl, fun i b' hi hb' => by
          by_cases e : i = k
          · subst e; rw [hb] at hb'; cases hb'; exact hn
          · exact hno i b' (by omega) hb'⟩
      have e1 : ((Utf8.decode s k).1 : Int) = ((s[k]'hlt).toNat : Int) := by rw [hd]
      rw [e1]
      cases hl : letterI ((s[k]'hlt).toNat : Int) with
      | true => rw [Bool.not_true, iteP_f]; exact go (by simp [nameAt, hl])
      | false =>
        rw [Bool.not_false, iteP_t]
        by_cases hk0 : k = 0
        · exact iteP_yes (by omega) (stop (by subst hk0; rw [nameAt_zero]; exact hl))
        · refine iteP_no (by omega) ?_
          cases hf : (digitI ((s[k]'hlt).toNat : Int) || decide (((s[k]'hlt).toNat : Int) = 95) || decide (((s[k]'hlt).toNat : Int) = 45)) with
          | true => rw [Bool.not_true, iteP_f]; exact go (by unfold nameAt; rw [hl, hf]; simp [hk0])
          | false => rw [Bool.not_false, iteP_t]; exact stop (by unfold nameAt; rw [hl, hf]; simp)
    · obtain ⟨hd1, hd2⟩ := decode_high s k hlt (by omega)
      have hl : letterI ((Utf8.decode s k).1 : Int) = false := by
        unfold letterI; simp; omega
      have hf : (digitI ((Utf8.decode s k).1 : Int) || decide (((Utf8.decode s k).1 : Int) = 95) || decide (((Utf8.decode s k).1 : Int) = 45)) = false := by
        unfold digitI; simp; omega
      have hn : nameAt k (s[k]'hlt) = false := by
        unfold nameAt letterI digitI; simp; omega
      rw [hl, hf, Bool.not_false, iteP_t]
      by_cases hk0 : k = 0
      · exact iteP_yes (by omega) (stop hn)
      · refine iteP_no (by omega) ?_
        rw [iteP_t]
        exact stop hn
  · refine iteP_no hlt ?_
    rw [isName_of h0 (by omega) (fun i b h => hno i b (by have := (Array.getElem?_eq_some_iff.1 h).1; have : i < s.size := this; omega) h)]; rfl
theorem ext_list (s : ByteArray) (f k : Nat) : (s.extract f k).data.toList = (s.data.toList.drop f).take (k - f) := by
  rw [ByteArray.data_extract, Array.toList_extract, List.extract_eq_take_drop]
theorem ext_succ {s : ByteArray} {f k : Nat} {b : UInt8} (h1 : f ≤ k) (h : s.data[k]? = some b) : (s.extract f (k + 1)).data.toList = (s.extract f k).data.toList ++ [b] := by
  rw [ext_list, ext_list]
  have e : k + 1 - f = (k - f) + 1 := by omega
  rw [e, List.take_add_one]
  congr 1
  rw [List.getElem?_drop, show f + (k - f) = k by omega, Array.getElem?_toList, h]; rfl
theorem drop_get {s : ByteArray} {k : Nat} {b : UInt8} (h : s.data[k]? = some b) : s.data.toList.drop k = b :: s.data.toList.drop (k + 1) := by
  obtain ⟨hk, e⟩ := Array.getElem?_eq_some_iff.1 h
  rw [List.drop_eq_getElem_cons (by simpa using hk), Array.getElem_toList, e]
set_option maxRecDepth 100000
noncomputable def E_names : Env := Env.of [(40, .pure g_isName)]
def H_names : FuncId → Hint := fun f => match f == 52 with | true => ⟨fun r => match r == 3 with | true => .inv [.val 3 false (.int .i64), .val 11 false (.int .i64)] | false => .none, fun _ _ => none, fun _ => none⟩ | false => noHint
theorem Eok_names : EnvOk Tryz.prog E_names := EnvOk.cons (x := .pure g_isName) fn_isName (EnvOk.nil _)
def F_names (a0 : List ByteArray) (R : T → Prop) : Prop :=
 loopK (Int × Int × PUnit)
 (fun (X0 : Int × Int × PUnit → Prop) (s1 : Int × Int × PUnit) =>
 iteP (decide (s1.snd.fst < (↑(List.map Sy.str.enc a0).length : Int)))
 (rowsK Sy.str (List.map Sy.str.enc a0) s1.snd.fst fun (y2 : ByteArray) =>
 callK [(false, Sy.bool)] (g_isName [T.v (Value.string y2)]) fun (y3 : Bool) =>
 iteP (!y3) (R (T.v (Value.bool false)))
 (X0 (IntKind.i64.wrap (s1.fst + (↑y2.size : Int)), IntKind.i64.wrap (s1.snd.fst + 1), ())))
 (iteP (decide (1 ≤ (↑(List.map Sy.str.enc a0).length : Int)))
 (iteP (decide ((↑(List.map Sy.str.enc a0).length : Int) ≤ 8))
 (R (T.v (Value.bool (decide (s1.fst ≤ 64))))) (R (T.v (Value.bool false))))
 (R (T.v (Value.bool false)))))
 (IntKind.i64.wrap ((↑(List.map Sy.str.enc a0).length : Int) - 1), 0, ())
theorem F_names_eq (a0 : List ByteArray) (R : T → Prop) : sxTop stdC2 Tryz.prog E_names H_names 8 52 [encV false Sy.str.li a0] R = F_names a0 R := by kernel_rfl
abbrev s_names : Sh := [(false, Sy.str.li)]
abbrev r_names : Sh := [(false, Sy.bool)]
theorem r_names_call (y : Sh.den r_names) (K : Sh.den r_names → Prop) : callK r_names (some (Sh.enc r_names y)) K = K y := callK_enc rfl y K

noncomputable def g_names : List T → Option (T) := gS s_names sp_names
theorem g_names_at {a0 : List ByteArray} : g_names [T.sl false (List.map Sy.str.enc a0)] = sp_names (a0) := gS_enc (s := s_names) rfl (a0) rfl
theorem g_names_op {u0} : g_names [T.sl false (List.map Sy.str.enc u0)] = sp_names (u0) := gS_enc (s := s_names) rfl (u0) rfl
theorem of_names (h : ∀ (a0 : List ByteArray) (r : T), sp_names (a0) = some r → BdSh s_names (a0) → F_names a0 (fun y => y = r)) : PureFn Tryz.prog 52 g_names :=
  pureFn_S (E := E_names) (Hs := H_names) Eok_names mixed' plain' (noHeap_of rfl) 8 ⟨_, _, Tryz.func52, rfl⟩ rfl fun x r h1 h2 => by
    let a0 := x
    rw [show Sh.encs s_names (a0) = [encV false Sy.str.li a0] from rfl, F_names_eq]
    exact h a0 r h1 h2

theorem sumSz_snoc : ∀ (l : List ByteArray) (x : ByteArray), sumSz (l ++ [x]) = sumSz l + x.size
  | [], x => by simp [sumSz]
  | a :: l, x => by simp only [List.cons_append, sumSz, sumSz_snoc l x]; omega
theorem sumSz_take : ∀ (l : List ByteArray) (k : Nat), sumSz (l.take k) ≤ sumSz l
  | [], k => by simp
  | a :: l, 0 => by simp [sumSz]
  | a :: l, k + 1 => by simp only [List.take_succ_cons, sumSz]; have := sumSz_take l k; omega
theorem fn_names : PureFn Tryz.prog 52 g_names := of_names fun l r h hb => by
  unfold sp_names at h
  split at h
  · rename_i hsz
    simp only [Bool.and_eq_true, decide_eq_true_eq] at hsz
    obtain ⟨hl65, hs64⟩ := hsz
    cases h
    unfold F_names
    refine loopK_ix l.length (fun k t => t = ((l.length : Int) - 1 + sumSz (l.take k), (k : Int), ()) ∧ (l.take k).all isName = true) ⟨by
      simp only [List.take_zero, sumSz, List.length_map, Prod.mk.injEq, and_true]
      rw [wrap_id _ (by omega) (by omega)]; simp, by simp⟩ ?_
    rintro X k t hk ⟨rfl, hall⟩ hX
    dsimp only
    by_cases hlt : k < l.length
    · refine iteP_yes (by simp [hlt]) ?_
      rw [rowsK_at (r := .str) hlt]
      refine callK_some (s := q_b) (y := isName l[k]) g_isName_at ?_
      have hsum := sumSz_take l (k + 1)
      have htake : l.take (k + 1) = l.take k ++ [l[k]] := List.take_succ_eq_append_getElem hlt
      cases hn : isName l[k] with
      | false =>
        rw [Bool.not_false, iteP_t]
        have : l.all isName = false := by
          rw [Bool.eq_false_iff]; intro ha
          have := List.all_eq_true.1 ha _ (List.getElem_mem hlt)
          rw [hn] at this; cases this
        rw [this]; rfl
      | true =>
        rw [Bool.not_true, iteP_f]
        rw [htake, sumSz_snoc] at hsum
        refine hX _ hlt ⟨?_, by rw [htake, List.all_append, hall]; simp [hn]⟩
        rw [htake, sumSz_snoc]
        simp only [Prod.mk.injEq, and_true]
        exact ⟨by rw [wrap_id _ (by omega) (by omega)]; simp; omega, wrap_id _ (by omega) (by omega)⟩
    · have : k = l.length := by omega
      subst this
      rw [List.take_length] at hall
      refine iteP_no (by simp) ?_
      rw [List.take_length, hall]
      by_cases h1 : 1 ≤ l.length
      · refine iteP_yes (by simp only [List.length_map]; omega) ?_
        by_cases h2 : l.length ≤ 8
        · refine iteP_yes (by simp only [List.length_map]; omega) ?_
          rw [decide_eq_true h1, decide_eq_true h2]; rfl
        · refine iteP_no (by simp only [List.length_map]; omega) ?_
          rw [decide_eq_false h2, Bool.and_false]; rfl
      · refine iteP_no (by simp only [List.length_map]; omega) ?_
        rw [decide_eq_false h1]; rfl
  · cases h
set_option maxRecDepth 100000
noncomputable def E_isId : Env := Env.of [(53, .pure g_splitS), (52, .pure g_names)]
def H_isId : FuncId → Hint := fun _ => noHint
theorem Eok_isId : EnvOk Tryz.prog E_isId := EnvOk.cons (x := .pure g_splitS) fn_splitS (EnvOk.cons (x := .pure g_names) fn_names (EnvOk.nil _))
def F_isId (a0 : ByteArray) (R : T → Prop) : Prop :=
 iteP (decide ((↑(ByteArray.size a0) : Int) ≤ 64))
 (callK [(false, Sy.str.li)]
 (g_splitS [T.v (Value.string a0), T.v (Value.string { data := #[46] })])
 fun (y0 : List ByteArray) =>
 callK [(false, Sy.bool)] (g_names [T.sl false (List.map Sy.str.enc y0)])
 fun (y1 : Bool) => R (T.v (Value.bool y1)))
 (R (T.v (Value.bool false)))
theorem F_isId_eq (a0 : ByteArray) (R : T → Prop) : sxTop stdC2 Tryz.prog E_isId H_isId 8 34 [encV false Sy.str a0] R = F_isId a0 R := by kernel_rfl
abbrev s_isId : Sh := [(false, Sy.str)]
abbrev r_isId : Sh := [(false, Sy.bool)]
theorem r_isId_call (y : Sh.den r_isId) (K : Sh.den r_isId → Prop) : callK r_isId (some (Sh.enc r_isId y)) K = K y := callK_enc rfl y K

noncomputable def g_isId : List T → Option (T) := gS s_isId sp_isId
theorem g_isId_at {a0 : ByteArray} : g_isId [T.v (Value.string a0)] = sp_isId (a0) := gS_enc (s := s_isId) rfl (a0) rfl
theorem g_isId_op {u0} : g_isId [T.v (Value.string u0)] = sp_isId (u0) := gS_enc (s := s_isId) rfl (u0) rfl
theorem of_isId (h : ∀ (a0 : ByteArray) (r : T), sp_isId (a0) = some r → BdSh s_isId (a0) → F_isId a0 (fun y => y = r)) : PureFn Tryz.prog 34 g_isId :=
  pureFn_S (E := E_isId) (Hs := H_isId) Eok_isId mixed' plain' (noHeap_of rfl) 8 ⟨_, _, Tryz.func34, rfl⟩ rfl fun x r h1 h2 => by
    let a0 := x
    rw [show Sh.encs s_isId (a0) = [encV false Sy.str a0] from rfl, F_isId_eq]
    exact h a0 r h1 h2

theorem fn_isId : PureFn Tryz.prog 34 g_isId := of_isId fun s r h hb => by
  have h' : some (Sh.enc q_b (isId s)) = some r := h
  cases h'
  clear h
  unfold F_isId isId
  by_cases h64 : s.size ≤ 64
  · refine iteP_yes (by omega) ?_
    have hsum := parts_sum s
    have hpos := parts_pos s
    refine callK_some (s := q_ls) (y := piecesOf s) ?_ ?_
    · rw [show g_splitS [T.v (Value.string s), T.v (Value.string { data := #[46] })] = sp_split (s, dot) from g_splitS_at]
      unfold sp_split
      rw [show decide (s.size < 4294967281) = true by simp; omega, show decide (1 ≤ dot.size) = true from rfl]
      rfl
    · refine callK_some (s := q_b) (y := (piecesOf s).all isName && (decide (1 ≤ (piecesOf s).length) && decide ((piecesOf s).length ≤ 8) && decide (sumI (piecesOf s) ≤ 64))) ?_ ?_
      · rw [g_names_at]
        unfold sp_names
        rw [show (decide ((piecesOf s).length ≤ 65) && decide (sumSz (piecesOf s) ≤ 64)) = true by simp; omega]
      · have h1 : decide (1 ≤ (piecesOf s).length) = true := decide_eq_true hpos
        have h2 : decide (sumI (piecesOf s) ≤ 64) = true := decide_eq_true (by unfold sumI; omega)
        have h3 : decide (s.size ≤ 64) = true := decide_eq_true h64
        rw [h1, h2, h3]
        simp [Bool.and_comm, Sh.enc, encV, Sy.enc, hdT]
  · refine iteP_no (by omega) ?_
    rw [decide_eq_false h64]; rfl
end Go.Pv
set_option linter.unusedSimpArgs false
set_option linter.unusedVariables false
set_option maxRecDepth 100000
namespace Go.Pv
open Go Go.Proofs
abbrev q_i : Sh := [(false, .int .i64)]
/-- What is wrong with a seam whose identifiers are right. -/
def tailErr (s : TSeam) : Int := if s.2.1 = s.2.2.1 then 2 else if ¬ s.2.2.2.1 = 1 ∧ ¬ s.2.2.2.1 = 2 then 10 else if s.2.2.2.2.1 < 1 ∨ 32768 < s.2.2.2.2.1 ∨ s.2.2.2.2.2 < 1 ∨ 3 < s.2.2.2.2.2 then 9 else 0
def seamErr (s : TSeam) : Int := if isId s.1 = true ∧ isId s.2.1 = true ∧ isId s.2.2.1 = true then tailErr s else 6
def sp_check (s : TSeam) : Option T := some (Sh.enc q_i (seamErr s))
def short (s : TSeam) : Bool := decide (s.1.size ≤ 300) && decide (s.2.1.size ≤ 300) && decide (s.2.2.1.size ≤ 300)
def sp_check18 (s : TSeam) : Option T := match short s with
  | true => some (Sh.enc q_i (seamErr s))
  | false => none
def sp_lawChecks (s : TSeam) : Option T := some (.v (.bool true))
theorem g_awake18_call' (K : Bool → Prop) (hK : K true) : callK [(false, Sy.bool)] (g_awake18 []) K := callK_some (s := [(false, Sy.bool)]) (y := true) rfl hK
end Go.Pv
