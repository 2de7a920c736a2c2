/-
  PanelJobs: Jobs in the program and in the reference, SameRows, the law.
-/
import Derived.Test.YtglbgioimibmjaaGreatDoorPmh
set_option linter.unusedSimpArgs false
set_option linter.unusedVariables false
set_option maxRecDepth 100000
namespace Go.Pv
open Go Go.Proofs
theorem jobs_le {l : List TPanel} {x : TLine} {t r : T} (h : (match decide (l.length ≤ 40) with | true => some t | false => none) = some r) : l.length ≤ 40 ∧ r = t := by
  split at h
  · rename_i hd; cases h; exact ⟨of_decide_eq_true hd, rfl⟩
  · cases h
theorem fn_jobs : PureFn Tryz.prog 15 g_jobs := of_jobs fun l x r h hb => by
  obtain ⟨hl, rfl⟩ := jobs_le (l := l) (x := x) h
  have is : ∀ {q : List (List Int)} {n : Int}, jobs (l, x) = (q, n) → T.tup [T.sl false (List.map (Sy.int IntKind.i64).li.enc q), T.v (Value.int IntKind.i64 n)] = Sh.enc r_jobs (jobs (l, x)) := fun h => by rw [h]; rfl
  unfold F_jobs
  rw [g_chk_at]
  simp only [sp_chk]
  rw [r_chk_call]
  refine ifN (fun h => is (q := []) (by unfold jobs; rw [if_neg h])) fun hc => ?_
  exact jobs_loop (G := g_mins) (R := fun y => y = Sh.enc r_jobs (jobs (l, x))) hl hc (fun p K => mins_call p x K) (fun h => is (q := []) (by unfold jobs; rw [if_pos hc, if_neg (by simp [h])])) (fun h => is (by unfold jobs; rw [if_pos hc, if_pos h]; rfl))
theorem fn_jobs39 : PureFn Tryz.prog 16 g_jobs39 := of_jobs39 fun l x r h hb => by
  obtain ⟨hl, rfl⟩ := jobs_le (l := l) (x := x) h
  have is : ∀ {q : List (List Int)} {n : Int}, jobs (l, x) = (q, n) → T.tup [T.sl false (List.map (Sy.int IntKind.i64).li.enc q), T.v (Value.int IntKind.i64 n)] = Sh.enc r_jobs39 (jobs (l, x)) := fun h => by rw [h]; rfl
  unfold F_jobs39
  rw [g_chk39_at]
  simp only [sp_chk39]
  rw [r_chk39_call]
  refine ifN (fun h => is (q := []) (by unfold jobs; rw [if_neg h])) fun hc => ?_
  exact jobs_loop (G := g_mins39) (R := fun y => y = Sh.enc r_jobs39 (jobs (l, x))) hl hc (fun p K => mins39_call p x K) (fun h => is (q := []) (by unfold jobs; rw [if_pos hc, if_neg (by simp [h])])) (fun h => is (by unfold jobs; rw [if_pos hc, if_pos h]; rfl))
set_option maxRecDepth 100000
noncomputable def E_sameRows : Env := Env.of [(27, .pure g_same37)]
def H_sameRows : FuncId → Hint := fun f => match f == 17 with | true => ⟨fun r => match r == 4 with | true => .inv [.val 5 false (.int .i64)] | false => .none, fun _ _ => none, fun _ => none⟩ | false => noHint
theorem Eok_sameRows : EnvOk Tryz.prog E_sameRows := EnvOk.cons (x := .pure g_same37) fn_same37 (EnvOk.nil _)
def F_sameRows (a0 : List (List Int)) (a1 : List (List Int)) (R : T → Prop) : Prop :=
  iteP
  (!decide
      ((↑(List.map (Sy.int IntKind.i64).li.enc a0).length : Int) =
        (↑(List.map (Sy.int IntKind.i64).li.enc a1).length : Int)))
  (R (T.v (Value.bool false)))
  (loopK (Int × PUnit)
    (fun (X0 : Int × PUnit → Prop) (s1 : Int × PUnit) =>
      iteP (decide (s1.fst < (↑(List.map (Sy.int IntKind.i64).li.enc a0).length : Int)))
        (rowsK (Sy.int IntKind.i64).li (List.map (Sy.int IntKind.i64).li.enc a0) s1.fst
          fun (y2 : List Int) =>
          rowsK (Sy.int IntKind.i64).li (List.map (Sy.int IntKind.i64).li.enc a1) s1.fst
            fun (y3 : List Int) =>
            callK [(false, Sy.bool)]
              (g_same37
                [T.sl false (List.map (Sy.int IntKind.i64).enc y2),
                  T.sl false (List.map (Sy.int IntKind.i64).enc y3)])
              fun (y4 : Bool) =>
              iteP (!y4) (R (T.v (Value.bool false))) (X0 (IntKind.i64.wrap (s1.fst + 1), ())))
        (R (T.v (Value.bool true))))
    (0, ()))
theorem F_sameRows_eq (a0 : List (List Int)) (a1 : List (List Int)) (R : T → Prop) : sxTop stdC2 Tryz.prog E_sameRows H_sameRows 8 17 [encV false (Sy.int IntKind.i64).li.li a0, encV false (Sy.int IntKind.i64).li.li a1] R = F_sameRows a0 a1 R := by kernel_rfl
abbrev s_sameRows : Sh := [(false, (Sy.int IntKind.i64).li.li), (false, (Sy.int IntKind.i64).li.li)]
abbrev r_sameRows : Sh := [(false, Sy.bool)]
theorem r_sameRows_call (y : Sh.den r_sameRows) (K : Sh.den r_sameRows → Prop) : callK r_sameRows (some (Sh.enc r_sameRows y)) K = K y := callK_enc rfl y K

def sp_sameRows (x : List (List Int) × List (List Int)) : Option T := some (Sh.enc r_sameRows (decide (x.1 = x.2)))
noncomputable def g_sameRows : List T → Option (T) := gS s_sameRows sp_sameRows
theorem g_sameRows_at {a0 : List (List Int)} {a1 : List (List Int)} : g_sameRows [T.sl false (List.map (Sy.int IntKind.i64).li.enc a0),
  T.sl false (List.map (Sy.int IntKind.i64).li.enc a1)] = sp_sameRows (a0, a1) := gS_enc (s := s_sameRows) rfl (a0, a1) rfl
theorem g_sameRows_op {u0 u1} : g_sameRows [T.sl false (List.map (Sy.int IntKind.i64).li.enc u0),
  T.sl false (List.map (Sy.int IntKind.i64).li.enc u1)] = sp_sameRows (u0, u1) := gS_enc (s := s_sameRows) rfl (u0, u1) rfl
theorem of_sameRows (h : ∀ (a0 : List (List Int)) (a1 : List (List Int)) (r : T), sp_sameRows (a0, a1) = some r → BdSh s_sameRows (a0, a1) → F_sameRows a0 a1 (fun y => y = r)) : PureFn Tryz.prog 17 g_sameRows :=
  pureFn_S (E := E_sameRows) (Hs := H_sameRows) Eok_sameRows mixed' plain' (noHeap_of rfl) 8 ⟨_, _, Tryz.func17, rfl⟩ rfl fun x r h1 h2 => by
    obtain ⟨a0, a1⟩ := x
    rw [show Sh.encs s_sameRows (a0, a1) = [encV false (Sy.int IntKind.i64).li.li a0, encV false (Sy.int IntKind.i64).li.li a1] from rfl, F_sameRows_eq]
    exact h a0 a1 r h1 h2

theorem fn_sameRows : PureFn Tryz.prog 17 g_sameRows := of_sameRows fun a b r h hb => by
  cases h
  have hl : a.length ≤ 2 ^ 47 := hb.1.1
  have is : ∀ {n : Bool}, decide (a = b) = n → T.v (Value.bool n) = Sh.enc r_sameRows (decide (a = b)) := fun h => by rw [h]; rfl
  unfold F_sameRows
  simp only [List.length_map]
  refine ifN (fun h => is (by rw [decide_eq_false]; rintro rfl; exact h rfl)) fun h1 => ?_
  have h1 : a.length = b.length := by omega
  refine loopK_ix a.length (fun k s => s = ((k : Int), ()) ∧ decide (a = b) = decide (a.drop k = b.drop k)) ⟨rfl, by simp only [List.drop_zero]⟩ ?_
  rintro X k s hk ⟨rfl, he⟩ hX
  dsimp only
  refine ifD (fun hlt => ?_) (fun hge => ?_)
  · have hlt : k < a.length := by omega
    have e : IntKind.i64.wrap ((k : Int) + 1) = ((k + 1 : Nat) : Int) := wrap_id _ (by omega) (by omega)
    rw [List.drop_eq_getElem_cons hlt, List.drop_eq_getElem_cons (show k < b.length by omega)] at he
    rw [rowsK_at (r := (Sy.int IntKind.i64).li) hlt, rowsK_at (r := (Sy.int IntKind.i64).li) (show k < b.length by omega), g_same37_at]
    simp only [sp_same37]
    rw [r_same37_call]
    refine ifN (fun h => is ?_) fun h => hX _ hlt ⟨by rw [e], ?_⟩
    · rw [he]; exact decide_eq_false fun e => h (List.cons.inj e).1
    · rw [he]; exact decide_eq_decide.2 ⟨fun e => (List.cons.inj e).2, fun e => by rw [h, e]⟩
  · have : k = a.length := by omega
    subst this
    exact is (by rw [he]; simp [h1])
def sp_lawJobs (x : List TPanel × TLine) : Option T := some (.v (.bool true))
set_option maxRecDepth 100000
noncomputable def E_lawJobs : Env := Env.of [(8, .pure g_few39), (15, .pure g_jobs), (16, .pure g_jobs39), (17, .pure g_sameRows), (9, .pure g_alive39)]
def H_lawJobs : FuncId → Hint := fun _ => noHint
theorem Eok_lawJobs : EnvOk Tryz.prog E_lawJobs := EnvOk.cons (x := .pure g_few39) fn_few39 (EnvOk.cons (x := .pure g_jobs) fn_jobs (EnvOk.cons (x := .pure g_jobs39) fn_jobs39 (EnvOk.cons (x := .pure g_sameRows) fn_sameRows (EnvOk.cons (x := .pure g_alive39) fn_alive39 (EnvOk.nil _)))))
def F_lawJobs (a0 : List TPanel) (a1 : TLine) (R : T → Prop) : Prop :=
  callK [(false, Sy.bool)] (g_few39 [encV true yLine a1]) fun (y0 : Bool) =>
  iteP (!y0)
    (callK [(false, Sy.bool)] (g_alive39 []) fun (y1 : Bool) => R (T.v (Value.bool y1)))
    (iteP (decide (40 < (↑(List.map yPanel.enc a0).length : Int)))
      (callK [(false, Sy.bool)] (g_alive39 []) fun (y2 : Bool) => R (T.v (Value.bool y2)))
      (callK [(false, (Sy.int IntKind.i64).li.li), (false, Sy.int IntKind.i64)]
        (g_jobs [T.sl false (List.map yPanel.enc a0), encV true yLine a1])
        fun (y3 : List (List Int) × Int) =>
        callK [(false, (Sy.int IntKind.i64).li.li), (false, Sy.int IntKind.i64)]
          (g_jobs39 [T.sl false (List.map yPanel.enc a0), encV true yLine a1])
          fun (y4 : List (List Int) × Int) =>
          callK [(false, Sy.bool)]
            (g_sameRows
              [T.sl false (List.map (Sy.int IntKind.i64).li.enc y3.fst),
                T.sl false (List.map (Sy.int IntKind.i64).li.enc y4.fst)])
            fun (y5 : Bool) =>
            iteP y5
              (iteP (decide (y3.snd = y4.snd))
                (callK [(false, Sy.bool)] (g_alive39 []) fun (y6 : Bool) =>
                  R (T.v (Value.bool y6)))
                (R (T.v (Value.bool false))))
              (R (T.v (Value.bool false)))))
theorem F_lawJobs_eq (a0 : List TPanel) (a1 : TLine) (R : T → Prop) : sxTop stdC2 Tryz.prog E_lawJobs H_lawJobs 8 4 [encV false yPanel.li a0, encV true yLine a1] R = F_lawJobs a0 a1 R := by kernel_rfl
abbrev s_lawJobs : Sh := [(false, yPanel.li), (true, yLine)]
abbrev r_lawJobs : Sh := [(false, Sy.bool)]
theorem r_lawJobs_call (y : Sh.den r_lawJobs) (K : Sh.den r_lawJobs → Prop) : callK r_lawJobs (some (Sh.enc r_lawJobs y)) K = K y := callK_enc rfl y K

noncomputable def g_lawJobs : List T → Option (T) := gS s_lawJobs sp_lawJobs
theorem g_lawJobs_at {a0 : List TPanel} {a1 : TLine} : g_lawJobs [T.sl false (List.map yPanel.enc a0), encV true yLine a1] = sp_lawJobs (a0, a1) := gS_enc (s := s_lawJobs) rfl (a0, a1) rfl
theorem g_lawJobs_op {u0 u1 u2 u3 u4} : g_lawJobs [T.sl false (List.map yPanel.enc u0),
  T.agg
    [T.sl false (List.map (Sy.int IntKind.i64).enc u1),
      T.sl false (List.map (Sy.int IntKind.i64).enc u2),
      T.sl false (List.map (Sy.int IntKind.i64).enc u3),
      T.sl false (List.map (Sy.int IntKind.i64).enc u4)]] = sp_lawJobs (u0, (u1, (u2, (u3, u4)))) := gS_enc (s := s_lawJobs) rfl (u0, (u1, (u2, (u3, u4)))) rfl
theorem of_lawJobs (h : ∀ (a0 : List TPanel) (a1 : TLine) (r : T), sp_lawJobs (a0, a1) = some r → BdSh s_lawJobs (a0, a1) → F_lawJobs a0 a1 (fun y => y = r)) : PureFn Tryz.prog 4 g_lawJobs :=
  pureFn_S (E := E_lawJobs) (Hs := H_lawJobs) Eok_lawJobs mixed' plain' (noHeap_of rfl) 8 ⟨_, _, Tryz.func4, rfl⟩ rfl fun x r h1 h2 => by
    obtain ⟨a0, a1⟩ := x
    rw [show Sh.encs s_lawJobs (a0, a1) = [encV false yPanel.li a0, encV true yLine a1] from rfl, F_lawJobs_eq]
    exact h a0 a1 r h1 h2

theorem sp_jobs_ok {l : List TPanel} {x : TLine} (h : l.length ≤ 40) : sp_jobs (l, x) = some (Sh.enc r_jobs (jobs (l, x))) := by
  unfold sp_jobs; rw [decide_eq_true h]
theorem sp_jobs39_ok {l : List TPanel} {x : TLine} (h : l.length ≤ 40) : sp_jobs39 (l, x) = some (Sh.enc r_jobs39 (jobs (l, x))) := by
  unfold sp_jobs39; rw [decide_eq_true h]
theorem fn_lawJobs : PureFn Tryz.prog 4 g_lawJobs := of_lawJobs fun l x r h hb => by
  cases h
  unfold F_lawJobs
  rw [g_few39_at]
  simp only [sp_few39]
  rw [r_few39_call]
  refine iteP_iff.2 ⟨fun _ => by rw [g_alive39_call], fun _ => ?_⟩
  refine ifD (fun _ => by rw [g_alive39_call]) fun hl => ?_
  have hl : l.length ≤ 40 := by simp only [List.length_map] at hl; omega
  rw [g_jobs_at, sp_jobs_ok hl, r_jobs_call, g_jobs39_at, sp_jobs39_ok hl, r_jobs39_call, g_sameRows_at]
  simp only [sp_sameRows]
  rw [r_sameRows_call]
  refine iteP_iff.2 ⟨fun _ => iteP_iff.2 ⟨fun _ => by rw [g_alive39_call], fun h => absurd h (by simp)⟩, fun h => absurd h (by simp)⟩
end Go.Pv
