/-
  PanelMinutes: Ceil, and Minutes as they are walked.
-/
import Derived.Test.YtglbgioimibmjaaGreatDoorPmb
set_option linter.unusedSimpArgs false
set_option linter.unusedVariables false
set_option maxRecDepth 100000
namespace Go.Pv
open Go Go.Proofs
theorem ceilO_spec {x y : Int × Int} (h : ceilO x = some y) : 0 ≤ x.1 ∧ x.1 ≤ 9007199254740992 ∧ x.2 = 1000 ∧ y = ((x.1 + 999) / 1000, 0) := by
  unfold ceilO at h
  split at h
  · rename_i hc
    simp only [Bool.and_eq_true, decide_eq_true_eq] at hc
    cases h
    exact ⟨hc.1.1, hc.1.2, hc.2, rfl⟩
  · cases h
theorem ceil_up {a : Int} (h0 : 0 ≤ a) (h1 : a ≤ 9007199254740992) (hm : ¬ Int.tmod a 1000 = 0) : IntKind.i64.wrap (IntKind.i64.wrap (Int.tdiv a 1000) + 1) = (a + 999) / 1000 := by
  rw [Int.tmod_eq_emod_of_nonneg h0] at hm
  rw [Int.tdiv_eq_ediv_of_nonneg h0, wrap_id (a / 1000) (by omega) (by omega), wrap_id _ (by omega) (by omega)]
  omega
theorem ceil_at {a : Int} (h0 : 0 ≤ a) (h1 : a ≤ 9007199254740992) (hm : Int.tmod a 1000 = 0) : IntKind.i64.wrap (Int.tdiv a 1000) = (a + 999) / 1000 := by
  rw [Int.tmod_eq_emod_of_nonneg h0] at hm
  rw [Int.tdiv_eq_ediv_of_nonneg h0, wrap_id (a / 1000) (by omega) (by omega)]
  omega
theorem fn_ceil : PureFn Tryz.prog 25 g_ceil := of_ceil fun a b r h hb => by
  simp only [sp_ceil, Option.map_eq_some_iff] at h
  obtain ⟨y, hy, rfl⟩ := h
  obtain ⟨h0, h1, h2, rfl⟩ := ceilO_spec hy
  simp only at h0 h1 h2 ⊢
  subst h2
  have is : ∀ {n : Int}, n = (a + 999) / 1000 → T.tup [T.v (Value.int IntKind.i64 n), T.v (Value.int IntKind.i64 0)] = Sh.enc r_ceil ((a + 999) / 1000, 0) := fun h => by rw [h]; rfl
  have hnn : ¬ Int.tmod a 1000 < 0 := by rw [Int.tmod_eq_emod_of_nonneg h0]; omega
  unfold F_ceil
  refine ifD (fun h => by omega) fun _ => ?_
  refine ifD (fun h => by omega) fun _ => ?_
  rw [reqK_def, reqK_def]
  refine ⟨rfl, rfl, ?_⟩
  refine ifN (fun h => ?_) fun h => is (ceil_at h0 h1 h)
  refine ifD (fun _ => is (ceil_up h0 h1 h)) fun h3 => absurd (show decide (Int.tmod a 1000 < 0) = decide ((1000 : Int) < 0) by rw [decide_eq_false hnn]; rfl) h3
theorem fn_ceil01 : PureFn Tryz.prog 26 g_ceil01 := of_ceil01 fun a b r h hb => by
  simp only [sp_ceil01, Option.map_eq_some_iff] at h
  obtain ⟨y, hy, rfl⟩ := h
  obtain ⟨h0, h1, h2, rfl⟩ := ceilO_spec hy
  simp only at h0 h1 h2 ⊢
  subst h2
  have is : ∀ {n : Int}, n = (a + 999) / 1000 → T.tup [T.v (Value.int IntKind.i64 n), T.v (Value.int IntKind.i64 0)] = Sh.enc r_ceil01 ((a + 999) / 1000, 0) := fun h => by rw [h]; rfl
  have hnn : ¬ Int.tmod a 1000 < 0 := by rw [Int.tmod_eq_emod_of_nonneg h0]; omega
  unfold F_ceil01
  refine ifD (fun h => by omega) fun _ => ?_
  refine ifD (fun h => by omega) fun _ => ?_
  rw [reqK_def, reqK_def]
  refine ⟨rfl, rfl, ?_⟩
  refine ifN (fun h => ?_) fun h => ?_
  · refine ifN (fun h3 => absurd (show decide (a < 0) = decide ((1000 : Int) < 0) by rw [decide_eq_false (by omega)]; rfl) h3) fun _ => ?_
    rw [reqK_def]
    exact ⟨rfl, ifN (fun _ => is (ceil_up h0 h1 h)) fun h4 => absurd h4 h⟩
  · rw [reqK_def]
    exact ⟨rfl, ifN (fun h4 => absurd h h4) fun _ => is (ceil_at h0 h1 h)⟩
def okP (p : TPanel) : Bool := decide (0 ≤ p.2.1) && decide (p.2.1 ≤ 256) && (decide (0 ≤ p.2.2.1) && decide (p.2.2.1 ≤ 256)) && (decide (0 ≤ p.2.2.2.1) && decide (p.2.2.2.1 ≤ 8388608)) && (decide (0 ≤ p.2.2.2.2.1) && decide (p.2.2.2.2.1 ≤ 8388608))
def minAt (p : TPanel) (a b c d : Int) : Int := p.2.1 * a + p.2.2.1 * b + (p.2.2.2.1 * c + 999) / 1000 + (p.2.2.2.2.1 * d + 999) / 1000
def minL (p : TPanel) : List Int → List Int → List Int → List Int → List Int
  | a :: A, b :: B, c :: C, d :: D => minAt p a b c d :: minL p A B C D
  | _, _, _, _ => []
def mins (x : TPanel × TLine) : List Int × Int := if chk x.2 = 0 then (if okP x.1 = true then (minL x.1 x.2.1 x.2.2.1 x.2.2.2.1 x.2.2.2.2, 0) else ([], 9)) else ([], chk x.2)
set_option maxRecDepth 100000
noncomputable def E_mins : Env := Env.of [(25, .pure g_ceil), (12, .pure g_chk)]
def H_mins : FuncId → Hint := fun f => match f == 10 with | true => ⟨fun r => match r == 8 with | true => .inv [.val 43 false (.int .i64), .own 7 1 (.int .i64)] | false => .none, fun _ _ => none, fun _ => none⟩ | false => noHint
theorem Eok_mins : EnvOk Tryz.prog E_mins := EnvOk.cons (x := .pure g_ceil) fn_ceil (EnvOk.cons (x := .pure g_chk) fn_chk (EnvOk.nil _))
def F_mins (a0 : TPanel) (a1 : TLine) (R : T → Prop) : Prop :=
  callK [(false, Sy.int IntKind.i64)] (g_chk [encV true yLine a1]) fun (y0 : Int) =>
  iteP (!decide (y0 = 0)) (R (T.tup [T.sl false [], T.v (Value.int IntKind.i64 y0)]))
    (iteP (decide (0 ≤ a0.snd.fst))
      (iteP (!decide (a0.snd.fst ≤ 256))
        (R (T.tup [T.sl false [], T.v (Value.int IntKind.i64 9)]))
        (iteP (decide (0 ≤ a0.snd.snd.fst))
          (iteP (!decide (a0.snd.snd.fst ≤ 256))
            (R (T.tup [T.sl false [], T.v (Value.int IntKind.i64 9)]))
            (iteP (decide (0 ≤ a0.snd.snd.snd.fst))
              (iteP (!decide (a0.snd.snd.snd.fst ≤ 8388608))
                (R (T.tup [T.sl false [], T.v (Value.int IntKind.i64 9)]))
                (iteP (decide (0 ≤ a0.snd.snd.snd.snd.fst))
                  (iteP (!decide (a0.snd.snd.snd.snd.fst ≤ 8388608))
                    (R (T.tup [T.sl false [], T.v (Value.int IntKind.i64 9)]))
                    (loopK (Int × List Int × PUnit)
                      (fun (X1 : Int × List Int × PUnit → Prop) (s2 : Int × List Int × PUnit) =>
                        iteP
                          (decide (s2.fst < (↑(List.map (Sy.int IntKind.i64).enc a1.fst).length : Int)))
                          (rowsK (Sy.int IntKind.i64)
                            (List.map (Sy.int IntKind.i64).enc a1.snd.snd.fst) s2.fst fun (y3 : Int) =>
                            callK [(false, Sy.int IntKind.i64), (false, Sy.int IntKind.i64)]
                              (g_ceil
                                [T.v
                                    (Value.int IntKind.i64 (IntKind.i64.wrap (a0.snd.snd.snd.fst * y3))),
                                  T.v (Value.int IntKind.i64 1000)])
                              fun (y4 : TPoint) =>
                              rowsK (Sy.int IntKind.i64)
                                (List.map (Sy.int IntKind.i64).enc a1.snd.snd.snd) s2.fst fun (y5 : Int) =>
                                callK [(false, Sy.int IntKind.i64), (false, Sy.int IntKind.i64)]
                                  (g_ceil
                                    [T.v
                                        (Value.int IntKind.i64
                                          (IntKind.i64.wrap (a0.snd.snd.snd.snd.fst * y5))),
                                      T.v (Value.int IntKind.i64 1000)])
                                  fun (y6 : TPoint) =>
                                  rowsK (Sy.int IntKind.i64)
                                    (List.map (Sy.int IntKind.i64).enc a1.fst) s2.fst fun (y7 : Int) =>
                                    rowsK (Sy.int IntKind.i64)
                                      (List.map (Sy.int IntKind.i64).enc a1.snd.fst) s2.fst fun (y8 : Int) =>
                                      reqK
                                        (decide
                                            (((List.map (Sy.int IntKind.i64).enc s2.snd.fst).length + 1) * 8 ≤
                                              140737488355328) &&
                                          decide
                                            ((List.map (Sy.int IntKind.i64).enc s2.snd.fst).length + 1 ≤
                                              140737488355328))
                                        (decK (Sy.int IntKind.i64)
                                          (List.map (Sy.int IntKind.i64).enc s2.snd.fst ++
                                            [[T.v
                                                  (Value.int IntKind.i64
                                                    (IntKind.i64.wrap
                                                      (IntKind.i64.wrap
                                                          (IntKind.i64.wrap
                                                              (IntKind.i64.wrap (a0.snd.fst * y7) +
                                                                IntKind.i64.wrap (a0.snd.snd.fst * y8)) +
                                                            y4.fst) +
                                                        y6.fst)))]])
                                          fun (y9 : List Int) => X1 (IntKind.i64.wrap (s2.fst + 1), y9, ())))
                          (R
                            (T.tup
                              [T.sl false (List.map (Sy.int IntKind.i64).enc s2.snd.fst),
                                T.v (Value.int IntKind.i64 0)])))
                      (0, [], ())))
                  (R (T.tup [T.sl false [], T.v (Value.int IntKind.i64 9)]))))
              (R (T.tup [T.sl false [], T.v (Value.int IntKind.i64 9)]))))
          (R (T.tup [T.sl false [], T.v (Value.int IntKind.i64 9)]))))
      (R (T.tup [T.sl false [], T.v (Value.int IntKind.i64 9)])))
theorem F_mins_eq (a0 : TPanel) (a1 : TLine) (R : T → Prop) : sxTop stdC2 Tryz.prog E_mins H_mins 8 10 [encV true yPanel a0, encV true yLine a1] R = F_mins a0 a1 R := by kernel_rfl
abbrev s_mins : Sh := [(true, yPanel), (true, yLine)]
abbrev r_mins : Sh := [(false, (Sy.int IntKind.i64).li), (false, Sy.int IntKind.i64)]
theorem r_mins_call (y : Sh.den r_mins) (K : Sh.den r_mins → Prop) : callK r_mins (some (Sh.enc r_mins y)) K = K y := callK_enc rfl y K

set_option maxRecDepth 100000
noncomputable def E_mins39 : Env := Env.of [(26, .pure g_ceil01), (13, .pure g_chk39)]
def H_mins39 : FuncId → Hint := fun f => match f == 11 with | true => ⟨fun r => match r == 8 with | true => .inv [.val 8 false (.int .i64), .own 7 1 (.int .i64)] | false => .none, fun _ _ => none, fun _ => none⟩ | false => noHint
theorem Eok_mins39 : EnvOk Tryz.prog E_mins39 := EnvOk.cons (x := .pure g_ceil01) fn_ceil01 (EnvOk.cons (x := .pure g_chk39) fn_chk39 (EnvOk.nil _))
def F_mins39 (a0 : TPanel) (a1 : TLine) (R : T → Prop) : Prop :=
  callK [(false, Sy.int IntKind.i64)] (g_chk39 [encV true yLine a1]) fun (y0 : Int) =>
  iteP (!decide (y0 = 0)) (R (T.tup [T.sl false [], T.v (Value.int IntKind.i64 y0)]))
    (iteP
      (decide
        ((if
              a0.snd.snd.snd.snd.fst <
                if a0.snd.snd.snd.fst < if a0.snd.snd.fst < a0.snd.fst then a0.snd.snd.fst else a0.snd.fst then
                  a0.snd.snd.snd.fst
                else if a0.snd.snd.fst < a0.snd.fst then a0.snd.snd.fst else a0.snd.fst then
            a0.snd.snd.snd.snd.fst
          else
            if a0.snd.snd.snd.fst < if a0.snd.snd.fst < a0.snd.fst then a0.snd.snd.fst else a0.snd.fst then
              a0.snd.snd.snd.fst
            else if a0.snd.snd.fst < a0.snd.fst then a0.snd.snd.fst else a0.snd.fst) <
          0))
      (R (T.tup [T.sl false [], T.v (Value.int IntKind.i64 9)]))
      (iteP (decide (256 < if a0.snd.fst < a0.snd.snd.fst then a0.snd.snd.fst else a0.snd.fst))
        (R (T.tup [T.sl false [], T.v (Value.int IntKind.i64 9)]))
        (iteP
          (decide
            (8388608 <
              if a0.snd.snd.snd.fst < a0.snd.snd.snd.snd.fst then a0.snd.snd.snd.snd.fst else a0.snd.snd.snd.fst))
          (R (T.tup [T.sl false [], T.v (Value.int IntKind.i64 9)]))
          (loopK (Int × List Int × PUnit)
            (fun (X1 : Int × List Int × PUnit → Prop) (s2 : Int × List Int × PUnit) =>
              iteP (decide (s2.fst < (↑(List.map (Sy.int IntKind.i64).enc a1.fst).length : Int)))
                (rowsK (Sy.int IntKind.i64) (List.map (Sy.int IntKind.i64).enc a1.snd.snd.fst)
                  s2.fst fun (y3 : Int) =>
                  callK [(false, Sy.int IntKind.i64), (false, Sy.int IntKind.i64)]
                    (g_ceil01
                      [T.v (Value.int IntKind.i64 (IntKind.i64.wrap (a0.snd.snd.snd.fst * y3))),
                        T.v (Value.int IntKind.i64 1000)])
                    fun (y4 : TPoint) =>
                    rowsK (Sy.int IntKind.i64)
                      (List.map (Sy.int IntKind.i64).enc a1.snd.snd.snd) s2.fst fun (y5 : Int) =>
                      callK [(false, Sy.int IntKind.i64), (false, Sy.int IntKind.i64)]
                        (g_ceil01
                          [T.v (Value.int IntKind.i64 (IntKind.i64.wrap (a0.snd.snd.snd.snd.fst * y5))),
                            T.v (Value.int IntKind.i64 1000)])
                        fun (y6 : TPoint) =>
                        rowsK (Sy.int IntKind.i64) (List.map (Sy.int IntKind.i64).enc a1.fst)
                          s2.fst fun (y7 : Int) =>
                          rowsK (Sy.int IntKind.i64)
                            (List.map (Sy.int IntKind.i64).enc a1.snd.fst) s2.fst fun (y8 : Int) =>
                            reqK
                              (decide
                                  (((List.map (Sy.int IntKind.i64).enc s2.snd.fst).length + 1) * 8 ≤
                                    140737488355328) &&
                                decide
                                  ((List.map (Sy.int IntKind.i64).enc s2.snd.fst).length + 1 ≤
                                    140737488355328))
                              (decK (Sy.int IntKind.i64)
                                (List.map (Sy.int IntKind.i64).enc s2.snd.fst ++
                                  [[T.v
                                        (Value.int IntKind.i64
                                          (IntKind.i64.wrap
                                            (IntKind.i64.wrap
                                                (IntKind.i64.wrap
                                                    (IntKind.i64.wrap (a0.snd.fst * y7) +
                                                      IntKind.i64.wrap (a0.snd.snd.fst * y8)) +
                                                  y4.fst) +
                                              y6.fst)))]])
                                fun (y9 : List Int) => X1 (IntKind.i64.wrap (s2.fst + 1), y9, ())))
                (R
                  (T.tup
                    [T.sl false (List.map (Sy.int IntKind.i64).enc s2.snd.fst),
                      T.v (Value.int IntKind.i64 0)])))
            (0, [], ())))))
theorem F_mins39_eq (a0 : TPanel) (a1 : TLine) (R : T → Prop) : sxTop stdC2 Tryz.prog E_mins39 H_mins39 8 11 [encV true yPanel a0, encV true yLine a1] R = F_mins39 a0 a1 R := by kernel_rfl
abbrev s_mins39 : Sh := [(true, yPanel), (true, yLine)]
abbrev r_mins39 : Sh := [(false, (Sy.int IntKind.i64).li), (false, Sy.int IntKind.i64)]
theorem r_mins39_call (y : Sh.den r_mins39) (K : Sh.den r_mins39 → Prop) : callK r_mins39 (some (Sh.enc r_mins39 y)) K = K y := callK_enc rfl y K

def sp_mins (x : TPanel × TLine) : Option T := some (Sh.enc r_mins (mins x))
def sp_mins39 (x : TPanel × TLine) : Option T := some (Sh.enc r_mins39 (mins x))
noncomputable def g_mins : List T → Option (T) := gS s_mins sp_mins
theorem g_mins_at {a0 : TPanel} {a1 : TLine} : g_mins [encV true yPanel a0, encV true yLine a1] = sp_mins (a0, a1) := gS_enc (s := s_mins) rfl (a0, a1) rfl
theorem g_mins_op {u0 u1 u2 u3 u4 u5 u6 u7 u8 u9} : g_mins [T.agg
    [T.v (Value.string u0), T.v (Value.int IntKind.i64 u1),
      T.v (Value.int IntKind.i64 u2),
      T.v (Value.int IntKind.i64 u3),
      T.v (Value.int IntKind.i64 u4),
      T.v (Value.int IntKind.i64 u5)],
  T.agg
    [T.sl false (List.map (Sy.int IntKind.i64).enc u6),
      T.sl false (List.map (Sy.int IntKind.i64).enc u7),
      T.sl false (List.map (Sy.int IntKind.i64).enc u8),
      T.sl false (List.map (Sy.int IntKind.i64).enc u9)]] = sp_mins ((u0, (u1, (u2, (u3, (u4, u5))))), (u6, (u7, (u8, u9)))) := gS_enc (s := s_mins) rfl ((u0, (u1, (u2, (u3, (u4, u5))))), (u6, (u7, (u8, u9)))) rfl
theorem of_mins (h : ∀ (a0 : TPanel) (a1 : TLine) (r : T), sp_mins (a0, a1) = some r → BdSh s_mins (a0, a1) → F_mins a0 a1 (fun y => y = r)) : PureFn Tryz.prog 10 g_mins :=
  pureFn_S (E := E_mins) (Hs := H_mins) Eok_mins mixed' plain' (noHeap_of rfl) 8 ⟨_, _, Tryz.func10, rfl⟩ rfl fun x r h1 h2 => by
    obtain ⟨a0, a1⟩ := x
    rw [show Sh.encs s_mins (a0, a1) = [encV true yPanel a0, encV true yLine a1] from rfl, F_mins_eq]
    exact h a0 a1 r h1 h2

noncomputable def g_mins39 : List T → Option (T) := gS s_mins39 sp_mins39
theorem g_mins39_at {a0 : TPanel} {a1 : TLine} : g_mins39 [encV true yPanel a0, encV true yLine a1] = sp_mins39 (a0, a1) := gS_enc (s := s_mins39) rfl (a0, a1) rfl
theorem g_mins39_op {u0 u1 u2 u3 u4 u5 u6 u7 u8 u9} : g_mins39 [T.agg
    [T.v (Value.string u0), T.v (Value.int IntKind.i64 u1),
      T.v (Value.int IntKind.i64 u2),
      T.v (Value.int IntKind.i64 u3),
      T.v (Value.int IntKind.i64 u4),
      T.v (Value.int IntKind.i64 u5)],
  T.agg
    [T.sl false (List.map (Sy.int IntKind.i64).enc u6),
      T.sl false (List.map (Sy.int IntKind.i64).enc u7),
      T.sl false (List.map (Sy.int IntKind.i64).enc u8),
      T.sl false (List.map (Sy.int IntKind.i64).enc u9)]] = sp_mins39 ((u0, (u1, (u2, (u3, (u4, u5))))), (u6, (u7, (u8, u9)))) := gS_enc (s := s_mins39) rfl ((u0, (u1, (u2, (u3, (u4, u5))))), (u6, (u7, (u8, u9)))) rfl
theorem of_mins39 (h : ∀ (a0 : TPanel) (a1 : TLine) (r : T), sp_mins39 (a0, a1) = some r → BdSh s_mins39 (a0, a1) → F_mins39 a0 a1 (fun y => y = r)) : PureFn Tryz.prog 11 g_mins39 :=
  pureFn_S (E := E_mins39) (Hs := H_mins39) Eok_mins39 mixed' plain' (noHeap_of rfl) 8 ⟨_, _, Tryz.func11, rfl⟩ rfl fun x r h1 h2 => by
    obtain ⟨a0, a1⟩ := x
    rw [show Sh.encs s_mins39 (a0, a1) = [encV true yPanel a0, encV true yLine a1] from rfl, F_mins39_eq]
    exact h a0 a1 r h1 h2

end Go.Pv
