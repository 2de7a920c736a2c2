/-
  PanelMinutes: the law's function.
-/
import Derived.Test.YtglbgioimibmjaaGreatDoorPmd
set_option linter.unusedSimpArgs false
set_option linter.unusedVariables false
set_option maxRecDepth 100000
namespace Go.Pv
open Go Go.Proofs
theorem chk_ok {x : TLine} (h : chk x = 0) : x.2.1.length = x.1.length ∧ x.2.2.1.length = x.1.length ∧ x.2.2.2.length = x.1.length ∧ x.1.length ≤ 8 ∧ inL x = true := by
  unfold chk at h
  split at h
  · rename_i hl
    split at h
    · cases h
    · split at h
      · cases h
      · split at h
        · rename_i hi
          exact ⟨hl.1, hl.2.1, hl.2.2, by omega, hi⟩
        · cases h
  · cases h
theorem ceil_call {n : Int} (h0 : 0 ≤ n) (h1 : n ≤ 9007199254740992) (K : Int × Int → Prop) : callK [(false, Sy.int IntKind.i64), (false, Sy.int IntKind.i64)] (g_ceil [T.v (Value.int IntKind.i64 n), T.v (Value.int IntKind.i64 1000)]) K = K ((n + 999) / 1000, 0) := by
  rw [g_ceil_at, show sp_ceil (n, 1000) = some (Sh.enc r_ceil ((n + 999) / 1000, 0)) by simp [sp_ceil, ceilO, h0, h1]]
  exact r_ceil_call _ K
theorem ceil01_call {n : Int} (h0 : 0 ≤ n) (h1 : n ≤ 9007199254740992) (K : Int × Int → Prop) : callK [(false, Sy.int IntKind.i64), (false, Sy.int IntKind.i64)] (g_ceil01 [T.v (Value.int IntKind.i64 n), T.v (Value.int IntKind.i64 1000)]) K = K ((n + 999) / 1000, 0) := by
  rw [g_ceil01_at, show sp_ceil01 (n, 1000) = some (Sh.enc r_ceil01 ((n + 999) / 1000, 0)) by simp [sp_ceil01, ceilO, h0, h1]]
  exact r_ceil01_call _ K
theorem mins_bad {p : TPanel} {x : TLine} (hc : chk x = 0) (h : okP p = false) : mins (p, x) = ([], 9) := by
  unfold mins; rw [if_pos hc, if_neg (by simp [h])]
theorem mins_good {p : TPanel} {x : TLine} (hc : chk x = 0) (h : okP p = true) : mins (p, x) = (minL p x.1 x.2.1 x.2.2.1 x.2.2.2, 0) := by
  unfold mins; rw [if_pos hc, if_pos h]
theorem fn_mins : PureFn Tryz.prog 10 g_mins := of_mins fun p x r h hb => by
  cases h
  have is : ∀ {l : List Int} {n : Int}, mins (p, x) = (l, n) → T.tup [T.sl false (List.map (Sy.int IntKind.i64).enc l), T.v (Value.int IntKind.i64 n)] = Sh.enc r_mins (mins (p, x)) := fun h => by rw [h]; rfl
  unfold F_mins
  rw [g_chk_at]
  simp only [sp_chk]
  rw [r_chk_call]
  refine ifN (fun h => is (l := []) (by unfold mins; rw [if_neg h])) fun hc => ?_
  have bad : ¬ okP p = true → T.tup [T.sl false [], T.v (Value.int IntKind.i64 9)] = Sh.enc r_mins (mins (p, x)) := fun h => is (l := []) (mins_bad hc (by simpa using h))
  obtain ⟨h1, h2, h3, h8, hi⟩ := chk_ok hc
  refine ifD (fun b1 => ifN (fun b => bad fun h => b (okP_spec h).1.2) fun b2 => ?_) fun b => bad fun h => b (okP_spec h).1.1
  refine ifD (fun b3 => ifN (fun b => bad fun h => b (okP_spec h).2.1.2) fun b4 => ?_) fun b => bad fun h => b (okP_spec h).2.1.1
  refine ifD (fun b5 => ifN (fun b => bad fun h => b (okP_spec h).2.2.1.2) fun b6 => ?_) fun b => bad fun h => b (okP_spec h).2.2.1.1
  refine ifD (fun b7 => ifN (fun b => bad fun h => b (okP_spec h).2.2.2.2) fun b8 => ?_) fun b => bad fun h => b (okP_spec h).2.2.2.1
  have hp : okP p = true := by simp only [okP, b1, b2, b3, b4, b5, b6, b7, b8, decide_true, Bool.and_self]
  exact mins_loop (G := g_ceil) (R := fun y => y = Sh.enc r_mins (mins (p, x))) hp hi h1 h2 h3 h8 ceil_call (is (mins_good hc hp))
theorem fn_mins39 : PureFn Tryz.prog 11 g_mins39 := of_mins39 fun p x r h hb => by
  cases h
  have is : ∀ {l : List Int} {n : Int}, mins (p, x) = (l, n) → T.tup [T.sl false (List.map (Sy.int IntKind.i64).enc l), T.v (Value.int IntKind.i64 n)] = Sh.enc r_mins39 (mins (p, x)) := fun h => by rw [h]; rfl
  unfold F_mins39
  rw [g_chk39_at]
  simp only [sp_chk39]
  rw [r_chk39_call]
  refine ifN (fun h => is (l := []) (by unfold mins; rw [if_neg h])) fun hc => ?_
  have bad : ¬ okP p = true → T.tup [T.sl false [], T.v (Value.int IntKind.i64 9)] = Sh.enc r_mins39 (mins (p, x)) := fun h => is (l := []) (mins_bad hc (by simpa using h))
  obtain ⟨h1, h2, h3, h8, hi⟩ := chk_ok hc
  refine ifD (fun b => bad fun h => ?_) fun b1 => ?_
  · have := okP_spec h; omega
  refine ifD (fun b => bad fun h => ?_) fun b2 => ?_
  · have := okP_spec h; omega
  refine ifD (fun b => bad fun h => ?_) fun b3 => ?_
  · have := okP_spec h; omega
  have hp : okP p = true := by
    simp only [okP, Bool.and_eq_true, decide_eq_true_eq]
    omega
  exact mins_loop (G := g_ceil01) (R := fun y => y = Sh.enc r_mins39 (mins (p, x))) hp hi h1 h2 h3 h8 ceil01_call (is (mins_good hc hp))
def sp_lawMins (x : TPanel × TLine) : Option T := some (.v (.bool true))
set_option maxRecDepth 100000
noncomputable def E_lawMins : Env := Env.of [(8, .pure g_few39), (10, .pure g_mins), (11, .pure g_mins39), (12, .pure g_chk), (13, .pure g_chk39), (14, .pure g_ints), (9, .pure g_alive39)]
def H_lawMins : FuncId → Hint := fun _ => noHint
theorem Eok_lawMins : EnvOk Tryz.prog E_lawMins := EnvOk.cons (x := .pure g_few39) fn_few39 (EnvOk.cons (x := .pure g_mins) fn_mins (EnvOk.cons (x := .pure g_mins39) fn_mins39 (EnvOk.cons (x := .pure g_chk) fn_chk (EnvOk.cons (x := .pure g_chk39) fn_chk39 (EnvOk.cons (x := .pure g_ints) fn_ints (EnvOk.cons (x := .pure g_alive39) fn_alive39 (EnvOk.nil _)))))))
def F_lawMins (a0 : TPanel) (a1 : TLine) (R : T → Prop) : Prop :=
  callK [(false, Sy.bool)] (g_few39 [encV true yLine a1]) fun (y0 : Bool) =>
  iteP (!y0)
    (callK [(false, Sy.bool)] (g_alive39 []) fun (y1 : Bool) => R (T.v (Value.bool y1)))
    (callK [(false, (Sy.int IntKind.i64).li), (false, Sy.int IntKind.i64)]
      (g_mins [encV true yPanel a0, encV true yLine a1]) fun (y2 : List Int × Int) =>
      callK [(false, (Sy.int IntKind.i64).li), (false, Sy.int IntKind.i64)]
        (g_mins39 [encV true yPanel a0, encV true yLine a1]) fun (y3 : List Int × Int) =>
        callK [(false, Sy.int IntKind.i64)] (g_chk [encV true yLine a1])
          fun (y4 : Int) =>
          callK [(false, Sy.int IntKind.i64)] (g_chk39 [encV true yLine a1])
            fun (y5 : Int) =>
            iteP (decide (y4 = y5))
              (callK [(false, Sy.bool)]
                (g_ints
                  [T.sl false (List.map (Sy.int IntKind.i64).enc y2.fst),
                    T.sl false (List.map (Sy.int IntKind.i64).enc y3.fst)])
                fun (y6 : Bool) =>
                iteP y6
                  (iteP (decide (y2.snd = y3.snd))
                    (callK [(false, Sy.bool)] (g_alive39 []) fun (y7 : Bool) =>
                      R (T.v (Value.bool y7)))
                    (R (T.v (Value.bool false))))
                  (R (T.v (Value.bool false))))
              (R (T.v (Value.bool false))))
theorem F_lawMins_eq (a0 : TPanel) (a1 : TLine) (R : T → Prop) : sxTop stdC2 Tryz.prog E_lawMins H_lawMins 8 3 [encV true yPanel a0, encV true yLine a1] R = F_lawMins a0 a1 R := by kernel_rfl
abbrev s_lawMins : Sh := [(true, yPanel), (true, yLine)]
abbrev r_lawMins : Sh := [(false, Sy.bool)]
theorem r_lawMins_call (y : Sh.den r_lawMins) (K : Sh.den r_lawMins → Prop) : callK r_lawMins (some (Sh.enc r_lawMins y)) K = K y := callK_enc rfl y K

noncomputable def g_lawMins : List T → Option (T) := gS s_lawMins sp_lawMins
theorem g_lawMins_at {a0 : TPanel} {a1 : TLine} : g_lawMins [encV true yPanel a0, encV true yLine a1] = sp_lawMins (a0, a1) := gS_enc (s := s_lawMins) rfl (a0, a1) rfl
theorem g_lawMins_op {u0 u1 u2 u3 u4 u5 u6 u7 u8 u9} : g_lawMins [T.agg
    [T.v (Value.string u0), T.v (Value.int IntKind.i64 u1),
      T.v (Value.int IntKind.i64 u2),
      T.v (Value.int IntKind.i64 u3),
      T.v (Value.int IntKind.i64 u4),
      T.v (Value.int IntKind.i64 u5)],
  T.agg
    [T.sl false (List.map (Sy.int IntKind.i64).enc u6),
      T.sl false (List.map (Sy.int IntKind.i64).enc u7),
      T.sl false (List.map (Sy.int IntKind.i64).enc u8),
      T.sl false (List.map (Sy.int IntKind.i64).enc u9)]] = sp_lawMins ((u0, (u1, (u2, (u3, (u4, u5))))), (u6, (u7, (u8, u9)))) := gS_enc (s := s_lawMins) rfl ((u0, (u1, (u2, (u3, (u4, u5))))), (u6, (u7, (u8, u9)))) rfl
theorem of_lawMins (h : ∀ (a0 : TPanel) (a1 : TLine) (r : T), sp_lawMins (a0, a1) = some r → BdSh s_lawMins (a0, a1) → F_lawMins a0 a1 (fun y => y = r)) : PureFn Tryz.prog 3 g_lawMins :=
  pureFn_S (E := E_lawMins) (Hs := H_lawMins) Eok_lawMins mixed' plain' (noHeap_of rfl) 8 ⟨_, _, Tryz.func3, rfl⟩ rfl fun x r h1 h2 => by
    obtain ⟨a0, a1⟩ := x
    rw [show Sh.encs s_lawMins (a0, a1) = [encV true yPanel a0, encV true yLine a1] from rfl, F_lawMins_eq]
    exact h a0 a1 r h1 h2

theorem g_alive39_call (K : Bool → Prop) : callK [(false, Sy.bool)] (g_alive39 []) K = K true := callK_enc (s := [(false, Sy.bool)]) rfl true K
theorem fn_lawMins : PureFn Tryz.prog 3 g_lawMins := of_lawMins fun p x r h hb => by
  cases h
  unfold F_lawMins
  rw [g_few39_at]
  simp only [sp_few39]
  rw [r_few39_call]
  refine iteP_iff.2 ⟨fun _ => ?_, fun _ => ?_⟩
  · rw [g_alive39_call]
  · rw [g_mins_at]
    simp only [sp_mins]
    rw [r_mins_call, g_mins39_at]
    simp only [sp_mins39]
    rw [r_mins39_call, g_chk_at]
    simp only [sp_chk]
    rw [r_chk_call, g_chk39_at]
    simp only [sp_chk39]
    rw [r_chk39_call]
    refine iteP_iff.2 ⟨fun _ => ?_, fun h => absurd h (by simp)⟩
    rw [g_ints_at]
    simp only [sp_ints]
    rw [r_ints_call]
    refine iteP_iff.2 ⟨fun _ => iteP_iff.2 ⟨fun _ => ?_, fun h => absurd h (by simp)⟩, fun h => absurd h (by simp)⟩
    rw [g_alive39_call]
end Go.Pv
