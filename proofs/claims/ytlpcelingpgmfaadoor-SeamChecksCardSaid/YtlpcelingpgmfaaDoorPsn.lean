/-
  SeamChecks: Check answers as the reference does.
-/
import Derived.Test.YtlpcelingpgmfaaDoorPsk
import Derived.Test.YtlpcelingpgmfaaDoorPa18
import Derived.Test.YtlpcelingpgmfaaDoorPkj
set_option linter.unusedSimpArgs false
set_option linter.unusedVariables false
set_option maxRecDepth 100000
namespace Go.Pv
open Go Go.Proofs
abbrev q_i : Sh := [(false, .int .i64)]
/-- What is wrong with a seam whose identifiers are right. -/
def tailErr (s : TSeam) : Int := if s.2.1 = s.2.2.1 then 2 else if ¬ s.2.2.2.1 = 1 ∧ ¬ s.2.2.2.1 = 2 then 10 else if s.2.2.2.2.1 < 1 ∨ 32768 < s.2.2.2.2.1 ∨ s.2.2.2.2.2 < 1 ∨ 3 < s.2.2.2.2.2 then 9 else 0
def seamErr (s : TSeam) : Int := if isId s.1 = true ∧ isId s.2.1 = true ∧ isId s.2.2.1 = true then tailErr s else 6
def sp_check (s : TSeam) : Option T := some (Sh.enc q_i (seamErr s))
def short (s : TSeam) : Bool := decide (s.1.size ≤ 300) && decide (s.2.1.size ≤ 300) && decide (s.2.2.1.size ≤ 300)
def sp_check18 (s : TSeam) : Option T := match short s with
  | true => some (Sh.enc q_i (seamErr s))
  | false => none
theorem tail_eq (a0 : TSeam) (R : T → Prop) (h : R (T.v (Value.int .i64 (tailErr a0)))) : iteP (decide (a0.snd.fst = a0.snd.snd.fst)) (R (T.v (Value.int IntKind.i64 2)))
              (iteP (!decide (a0.snd.snd.snd.fst = 1))
                (iteP (!decide (a0.snd.snd.snd.fst = 2)) (R (T.v (Value.int IntKind.i64 10)))
                  (iteP (decide (a0.snd.snd.snd.snd.fst < 1)) (R (T.v (Value.int IntKind.i64 9)))
                    (iteP (decide (32768 < a0.snd.snd.snd.snd.fst))
                      (R (T.v (Value.int IntKind.i64 9)))
                      (iteP (decide (a0.snd.snd.snd.snd.snd < 1)) (R (T.v (Value.int IntKind.i64 9)))
                        (iteP (decide (3 < a0.snd.snd.snd.snd.snd))
                          (R (T.v (Value.int IntKind.i64 9)))
                          (R (T.v (Value.int IntKind.i64 0))))))))
                (iteP (decide (a0.snd.snd.snd.snd.fst < 1)) (R (T.v (Value.int IntKind.i64 9)))
                  (iteP (decide (32768 < a0.snd.snd.snd.snd.fst)) (R (T.v (Value.int IntKind.i64 9)))
                    (iteP (decide (a0.snd.snd.snd.snd.snd < 1)) (R (T.v (Value.int IntKind.i64 9)))
                      (iteP (decide (3 < a0.snd.snd.snd.snd.snd)) (R (T.v (Value.int IntKind.i64 9)))
                        (R (T.v (Value.int IntKind.i64 0)))))))) := by
  obtain ⟨i, a, b, k, l, c⟩ := a0
  simp only [iteP_def] at *
  unfold tailErr at h
  dsimp only at *
  by_cases h1 : a = b
  · simp only [h1, if_true] at h; simpa [h1] using h
  · rw [if_neg h1] at h
    rw [if_neg (by simpa using h1)]
    have rest : (if l < 1 ∨ 32768 < l ∨ c < 1 ∨ 3 < c then (9 : Int) else 0) = if l < 1 then 9 else if 32768 < l then 9 else if c < 1 then 9 else if 3 < c then 9 else 0 := by
      by_cases g1 : l < 1 <;> by_cases g2 : 32768 < l <;> by_cases g3 : c < 1 <;> by_cases g4 : 3 < c <;> simp [g1, g2, g3, g4]
    by_cases h2 : k = 1
    · rw [if_neg (by omega), rest] at h
      simp only [h2]
      by_cases g1 : l < 1 <;> by_cases g2 : 32768 < l <;> by_cases g3 : c < 1 <;> by_cases g4 : 3 < c <;> simp only [g1, g2, g3, g4, if_true, if_false] at h <;> simpa [g1, g2, g3, g4] using h
    · by_cases h3 : k = 2
      · rw [if_neg (by omega), rest] at h
        simp only [h3]
        by_cases g1 : l < 1 <;> by_cases g2 : 32768 < l <;> by_cases g3 : c < 1 <;> by_cases g4 : 3 < c <;> simp only [g1, g2, g3, g4, if_true, if_false] at h <;> simpa [g1, g2, g3, g4] using h
      · rw [if_pos ⟨h2, h3⟩] at h
        simpa [h2, h3] using h
set_option maxRecDepth 100000
noncomputable def E_check : Env := Env.of [(23, .pure g_isId)]
def H_check : FuncId → Hint := fun _ => noHint
theorem Eok_check : EnvOk Tryd.prog E_check := EnvOk.cons (x := .pure g_isId) fn_isId (EnvOk.nil _)
def F_check (a0 : TSeam) (R : T → Prop) : Prop :=
  callK [(false, Sy.bool)] (g_isId [T.v (Value.string a0.fst)]) fun (y0 : Bool) =>
  iteP (!y0) (R (T.v (Value.int IntKind.i64 6)))
    (callK [(false, Sy.bool)] (g_isId [T.v (Value.string a0.snd.fst)]) fun (y1 : Bool) =>
      iteP (!y1) (R (T.v (Value.int IntKind.i64 6)))
        (callK [(false, Sy.bool)] (g_isId [T.v (Value.string a0.snd.snd.fst)])
          fun (y2 : Bool) =>
          iteP (!y2) (R (T.v (Value.int IntKind.i64 6)))
            (iteP (decide (a0.snd.fst = a0.snd.snd.fst)) (R (T.v (Value.int IntKind.i64 2)))
              (iteP (!decide (a0.snd.snd.snd.fst = 1))
                (iteP (!decide (a0.snd.snd.snd.fst = 2)) (R (T.v (Value.int IntKind.i64 10)))
                  (iteP (decide (a0.snd.snd.snd.snd.fst < 1)) (R (T.v (Value.int IntKind.i64 9)))
                    (iteP (decide (32768 < a0.snd.snd.snd.snd.fst))
                      (R (T.v (Value.int IntKind.i64 9)))
                      (iteP (decide (a0.snd.snd.snd.snd.snd < 1)) (R (T.v (Value.int IntKind.i64 9)))
                        (iteP (decide (3 < a0.snd.snd.snd.snd.snd))
                          (R (T.v (Value.int IntKind.i64 9)))
                          (R (T.v (Value.int IntKind.i64 0))))))))
                (iteP (decide (a0.snd.snd.snd.snd.fst < 1)) (R (T.v (Value.int IntKind.i64 9)))
                  (iteP (decide (32768 < a0.snd.snd.snd.snd.fst)) (R (T.v (Value.int IntKind.i64 9)))
                    (iteP (decide (a0.snd.snd.snd.snd.snd < 1)) (R (T.v (Value.int IntKind.i64 9)))
                      (iteP (decide (3 < a0.snd.snd.snd.snd.snd)) (R (T.v (Value.int IntKind.i64 9)))
                        (R (T.v (Value.int IntKind.i64 0)))))))))))
theorem F_check_eq (a0 : TSeam) (R : T → Prop) : sxTop stdC2 Tryd.prog E_check H_check 8 8 [encV true ySeam a0] R = F_check a0 R := by kernel_rfl
abbrev s_check : Sh := [(true, ySeam)]
abbrev r_check : Sh := [(false, Sy.int IntKind.i64)]
theorem r_check_call (y : Sh.den r_check) (K : Sh.den r_check → Prop) : callK r_check (some (Sh.enc r_check y)) K = K y := callK_enc rfl y K

noncomputable def g_check : List T → Option (T) := gS s_check sp_check
theorem g_check_at {a0} : g_check [encV true ySeam a0] = sp_check (a0) := gS_enc (s := s_check) rfl (a0) rfl
theorem g_check_op {u0 u1 u2 u3 u4 u5} : g_check [T.agg
    [T.v (Value.string u0), T.v (Value.string u1),
      T.v (Value.string u2), T.v (Value.int IntKind.i64 u3),
      T.v (Value.int IntKind.i64 u4),
      T.v (Value.int IntKind.i64 u5)]] = sp_check ((u0, (u1, (u2, (u3, (u4, u5)))))) := gS_enc (s := s_check) rfl ((u0, (u1, (u2, (u3, (u4, u5)))))) rfl
theorem of_check (h : ∀ (a0 : TSeam) (r : T), sp_check (a0) = some r → BdSh s_check (a0) → F_check a0 (fun y => y = r)) : PureFn Tryd.prog 8 g_check :=
  pureFn_S (E := E_check) (Hs := H_check) Eok_check mixed' plain' (noHeap_of rfl) 8 ⟨_, _, Tryd.func8, rfl⟩ rfl fun x r h1 h2 => by
    let a0 := x
    rw [show Sh.encs s_check (a0) = [encV true ySeam a0] from rfl, F_check_eq]
    exact h a0 r h1 h2

set_option maxRecDepth 100000
noncomputable def E_check18 : Env := Env.of [(24, .pure g_isId04)]
def H_check18 : FuncId → Hint := fun _ => noHint
theorem Eok_check18 : EnvOk Tryd.prog E_check18 := EnvOk.cons (x := .pure g_isId04) fn_isId04 (EnvOk.nil _)
def F_check18 (a0 : TSeam) (R : T → Prop) : Prop :=
  callK [(false, Sy.bool)] (g_isId04 [T.v (Value.string a0.fst)]) fun (y0 : Bool) =>
  iteP (!y0) (R (T.v (Value.int IntKind.i64 6)))
    (callK [(false, Sy.bool)] (g_isId04 [T.v (Value.string a0.snd.fst)]) fun (y1 : Bool) =>
      iteP (!y1) (R (T.v (Value.int IntKind.i64 6)))
        (callK [(false, Sy.bool)] (g_isId04 [T.v (Value.string a0.snd.snd.fst)])
          fun (y2 : Bool) =>
          iteP (!y2) (R (T.v (Value.int IntKind.i64 6)))
            (iteP (decide (a0.snd.fst = a0.snd.snd.fst)) (R (T.v (Value.int IntKind.i64 2)))
              (iteP (!decide (a0.snd.snd.snd.fst = 1))
                (iteP (!decide (a0.snd.snd.snd.fst = 2)) (R (T.v (Value.int IntKind.i64 10)))
                  (iteP (decide (a0.snd.snd.snd.snd.fst < 1)) (R (T.v (Value.int IntKind.i64 9)))
                    (iteP (decide (32768 < a0.snd.snd.snd.snd.fst))
                      (R (T.v (Value.int IntKind.i64 9)))
                      (iteP (decide (a0.snd.snd.snd.snd.snd < 1)) (R (T.v (Value.int IntKind.i64 9)))
                        (iteP (decide (3 < a0.snd.snd.snd.snd.snd))
                          (R (T.v (Value.int IntKind.i64 9)))
                          (R (T.v (Value.int IntKind.i64 0))))))))
                (iteP (decide (a0.snd.snd.snd.snd.fst < 1)) (R (T.v (Value.int IntKind.i64 9)))
                  (iteP (decide (32768 < a0.snd.snd.snd.snd.fst)) (R (T.v (Value.int IntKind.i64 9)))
                    (iteP (decide (a0.snd.snd.snd.snd.snd < 1)) (R (T.v (Value.int IntKind.i64 9)))
                      (iteP (decide (3 < a0.snd.snd.snd.snd.snd)) (R (T.v (Value.int IntKind.i64 9)))
                        (R (T.v (Value.int IntKind.i64 0)))))))))))
theorem F_check18_eq (a0 : TSeam) (R : T → Prop) : sxTop stdC2 Tryd.prog E_check18 H_check18 8 9 [encV true ySeam a0] R = F_check18 a0 R := by kernel_rfl
abbrev s_check18 : Sh := [(true, ySeam)]
abbrev r_check18 : Sh := [(false, Sy.int IntKind.i64)]
theorem r_check18_call (y : Sh.den r_check18) (K : Sh.den r_check18 → Prop) : callK r_check18 (some (Sh.enc r_check18 y)) K = K y := callK_enc rfl y K

noncomputable def g_check18 : List T → Option (T) := gS s_check18 sp_check18
theorem g_check18_at {a0} : g_check18 [encV true ySeam a0] = sp_check18 (a0) := gS_enc (s := s_check18) rfl (a0) rfl
theorem g_check18_op {u0 u1 u2 u3 u4 u5} : g_check18 [T.agg
    [T.v (Value.string u0), T.v (Value.string u1),
      T.v (Value.string u2), T.v (Value.int IntKind.i64 u3),
      T.v (Value.int IntKind.i64 u4),
      T.v (Value.int IntKind.i64 u5)]] = sp_check18 ((u0, (u1, (u2, (u3, (u4, u5)))))) := gS_enc (s := s_check18) rfl ((u0, (u1, (u2, (u3, (u4, u5)))))) rfl
theorem of_check18 (h : ∀ (a0 : TSeam) (r : T), sp_check18 (a0) = some r → BdSh s_check18 (a0) → F_check18 a0 (fun y => y = r)) : PureFn Tryd.prog 9 g_check18 :=
  pureFn_S (E := E_check18) (Hs := H_check18) Eok_check18 mixed' plain' (noHeap_of rfl) 8 ⟨_, _, Tryd.func9, rfl⟩ rfl fun x r h1 h2 => by
    let a0 := x
    rw [show Sh.encs s_check18 (a0) = [encV true ySeam a0] from rfl, F_check18_eq]
    exact h a0 r h1 h2

theorem fn_check : PureFn Tryd.prog 8 g_check := of_check fun s r h hb => by
  have h' : some (Sh.enc q_i (seamErr s)) = some r := h
  cases h'
  clear h
  unfold F_check
  refine callK_some (s := q_b) (y := isId s.1) g_isId_at ?_
  cases h1 : isId s.1 with
  | false => rw [Bool.not_false, iteP_t]; simp [seamErr, h1, Sh.enc, encV, Sy.enc, hdT]
  | true =>
    rw [Bool.not_true, iteP_f]
    refine callK_some (s := q_b) (y := isId s.2.1) g_isId_at ?_
    cases h2 : isId s.2.1 with
    | false => rw [Bool.not_false, iteP_t]; simp [seamErr, h2, Sh.enc, encV, Sy.enc, hdT]
    | true =>
      rw [Bool.not_true, iteP_f]
      refine callK_some (s := q_b) (y := isId s.2.2.1) g_isId_at ?_
      cases h3 : isId s.2.2.1 with
      | false => rw [Bool.not_false, iteP_t]; simp [seamErr, h3, Sh.enc, encV, Sy.enc, hdT]
      | true =>
        rw [Bool.not_true, iteP_f]
        exact tail_eq s (fun y => y = Sh.enc q_i (seamErr s)) (by simp [seamErr, h1, h2, h3, Sh.enc, encV, Sy.enc, hdT])
theorem isId04_call {s : ByteArray} (h : s.size ≤ 300) : g_isId04 [T.v (Value.string s)] = some (Sh.enc q_b (isId s)) := by
  rw [show g_isId04 [T.v (Value.string s)] = sp_isId04 s from g_isId04_at]
  unfold sp_isId04
  rw [decide_eq_true h]
theorem fn_check18 : PureFn Tryd.prog 9 g_check18 := of_check18 fun s r h hb => by
  unfold sp_check18 at h
  split at h
  · rename_i hsh
    cases h
    simp only [short, Bool.and_eq_true, decide_eq_true_eq] at hsh
    obtain ⟨⟨s1, s2⟩, s3⟩ := hsh
    unfold F_check18
    refine callK_some (s := q_b) (y := isId s.1) (isId04_call s1) ?_
    cases h1 : isId s.1 with
    | false => rw [Bool.not_false, iteP_t]; simp [seamErr, h1, Sh.enc, encV, Sy.enc, hdT]
    | true =>
      rw [Bool.not_true, iteP_f]
      refine callK_some (s := q_b) (y := isId s.2.1) (isId04_call s2) ?_
      cases h2 : isId s.2.1 with
      | false => rw [Bool.not_false, iteP_t]; simp [seamErr, h2, Sh.enc, encV, Sy.enc, hdT]
      | true =>
        rw [Bool.not_true, iteP_f]
        refine callK_some (s := q_b) (y := isId s.2.2.1) (isId04_call s3) ?_
        cases h3 : isId s.2.2.1 with
        | false => rw [Bool.not_false, iteP_t]; simp [seamErr, h3, Sh.enc, encV, Sy.enc, hdT]
        | true =>
          rw [Bool.not_true, iteP_f]
          exact tail_eq s (fun y => y = Sh.enc q_i (seamErr s)) (by simp [seamErr, h1, h2, h3, Sh.enc, encV, Sy.enc, hdT])
  · cases h
def sp_lawChecks (s : TSeam) : Option T := some (.v (.bool true))
theorem g_awake18_call' (K : Bool → Prop) (hK : K true) : callK [(false, Sy.bool)] (g_awake18 []) K := callK_some (s := [(false, Sy.bool)]) (y := true) rfl hK
set_option maxRecDepth 100000
noncomputable def E_lawChecks : Env := Env.of [(8, .pure g_check), (9, .pure g_check18), (7, .pure g_awake18)]
def H_lawChecks : FuncId → Hint := fun _ => noHint
theorem Eok_lawChecks : EnvOk Tryd.prog E_lawChecks := EnvOk.cons (x := .pure g_check) fn_check (EnvOk.cons (x := .pure g_check18) fn_check18 (EnvOk.cons (x := .pure g_awake18) fn_awake18 (EnvOk.nil _)))
def F_lawChecks (a0 : TSeam) (R : T → Prop) : Prop :=
  iteP (decide (300 < (↑(ByteArray.size a0.fst) : Int)))
  (callK [(false, Sy.bool)] (g_awake18 []) fun (y0 : Bool) => R (T.v (Value.bool y0)))
  (iteP (decide (300 < (↑(ByteArray.size a0.snd.fst) : Int)))
    (callK [(false, Sy.bool)] (g_awake18 []) fun (y1 : Bool) => R (T.v (Value.bool y1)))
    (iteP (decide (300 < (↑(ByteArray.size a0.snd.snd.fst) : Int)))
      (callK [(false, Sy.bool)] (g_awake18 []) fun (y2 : Bool) => R (T.v (Value.bool y2)))
      (callK [(false, Sy.int IntKind.i64)] (g_check [encV true ySeam a0])
        fun (y3 : Int) =>
        callK [(false, Sy.int IntKind.i64)] (g_check18 [encV true ySeam a0])
          fun (y4 : Int) =>
          iteP (decide (y3 = y4))
            (callK [(false, Sy.bool)] (g_awake18 []) fun (y5 : Bool) =>
              R (T.v (Value.bool y5)))
            (R (T.v (Value.bool false))))))
theorem F_lawChecks_eq (a0 : TSeam) (R : T → Prop) : sxTop stdC2 Tryd.prog E_lawChecks H_lawChecks 8 3 [encV true ySeam a0] R = F_lawChecks a0 R := by kernel_rfl
abbrev s_lawChecks : Sh := [(true, ySeam)]
abbrev r_lawChecks : Sh := [(false, Sy.bool)]
theorem r_lawChecks_call (y : Sh.den r_lawChecks) (K : Sh.den r_lawChecks → Prop) : callK r_lawChecks (some (Sh.enc r_lawChecks y)) K = K y := callK_enc rfl y K

noncomputable def g_lawChecks : List T → Option (T) := gS s_lawChecks sp_lawChecks
theorem g_lawChecks_at {a0} : g_lawChecks [encV true ySeam a0] = sp_lawChecks (a0) := gS_enc (s := s_lawChecks) rfl (a0) rfl
theorem g_lawChecks_op {u0 u1 u2 u3 u4 u5} : g_lawChecks [T.agg
    [T.v (Value.string u0), T.v (Value.string u1),
      T.v (Value.string u2), T.v (Value.int IntKind.i64 u3),
      T.v (Value.int IntKind.i64 u4),
      T.v (Value.int IntKind.i64 u5)]] = sp_lawChecks ((u0, (u1, (u2, (u3, (u4, u5)))))) := gS_enc (s := s_lawChecks) rfl ((u0, (u1, (u2, (u3, (u4, u5)))))) rfl
theorem of_lawChecks (h : ∀ (a0 : TSeam) (r : T), sp_lawChecks (a0) = some r → BdSh s_lawChecks (a0) → F_lawChecks a0 (fun y => y = r)) : PureFn Tryd.prog 3 g_lawChecks :=
  pureFn_S (E := E_lawChecks) (Hs := H_lawChecks) Eok_lawChecks mixed' plain' (noHeap_of rfl) 8 ⟨_, _, Tryd.func3, rfl⟩ rfl fun x r h1 h2 => by
    let a0 := x
    rw [show Sh.encs s_lawChecks (a0) = [encV true ySeam a0] from rfl, F_lawChecks_eq]
    exact h a0 r h1 h2

theorem fn_lawChecks : PureFn Tryd.prog 3 g_lawChecks := of_lawChecks fun s r h hb => by
  have h' : some (T.v (.bool true)) = some r := h
  cases h'
  clear h
  unfold F_lawChecks
  by_cases s1 : s.1.size ≤ 300
  · refine iteP_no (by omega) ?_
    by_cases s2 : s.2.1.size ≤ 300
    · refine iteP_no (by omega) ?_
      by_cases s3 : s.2.2.1.size ≤ 300
      · refine iteP_no (by omega) ?_
        refine callK_some (s := q_i) (y := seamErr s) g_check_at ?_
        refine callK_some (s := q_i) (y := seamErr s) (by
          rw [g_check18_at, sp_check18, show short s = true by simp [short, s1, s2, s3]]) ?_
        exact iteP_yes rfl (g_awake18_call' _ rfl)
      · exact iteP_yes (by omega) (g_awake18_call' _ rfl)
    · exact iteP_yes (by omega) (g_awake18_call' _ rfl)
  · exact iteP_yes (by omega) (g_awake18_call' _ rfl)
end Go.Pv
