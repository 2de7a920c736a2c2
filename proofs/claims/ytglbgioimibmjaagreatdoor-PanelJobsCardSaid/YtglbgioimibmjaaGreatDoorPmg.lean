/-
  PanelJobs: the functions, walked.
-/
import Derived.Test.YtglbgioimibmjaaGreatDoorPme
set_option linter.unusedSimpArgs false
set_option linter.unusedVariables false
set_option maxRecDepth 100000
namespace Go.Pv
open Go Go.Proofs
def jobs (x : List TPanel × TLine) : List (List Int) × Int := if chk x.2 = 0 then (if x.1.all okP = true then (x.1.map fun p => minL p x.2.1 x.2.2.1 x.2.2.2.1 x.2.2.2.2, 0) else ([], 9)) else ([], chk x.2)
set_option maxRecDepth 100000
noncomputable def E_jobs : Env := Env.of [(10, .pure g_mins), (12, .pure g_chk)]
def H_jobs : FuncId → Hint := fun f => match f == 15 with | true => ⟨fun r => match r == 6 with | true => .inv [.val 19 false (.int .i64), .own 7 1 (.li (.int .i64))] | false => .none, fun _ _ => none, fun _ => none⟩ | false => noHint
theorem Eok_jobs : EnvOk Tryz.prog E_jobs := EnvOk.cons (x := .pure g_mins) fn_mins (EnvOk.cons (x := .pure g_chk) fn_chk (EnvOk.nil _))
def F_jobs (a0 : List TPanel) (a1 : TLine) (R : T → Prop) : Prop :=
  callK [(false, Sy.int IntKind.i64)] (g_chk [encV true yLine a1]) fun (y0 : Int) =>
  iteP (!decide (y0 = 0)) (R (T.tup [T.sl false [], T.v (Value.int IntKind.i64 y0)]))
    (loopK (Int × List (List Int) × PUnit)
      (fun (X1 : Int × List (List Int) × PUnit → Prop) (s2 : Int × List (List Int) × PUnit) =>
        iteP (decide (s2.fst < (↑(List.map yPanel.enc a0).length : Int)))
          (rowsK yPanel (List.map yPanel.enc a0) s2.fst fun (y3 : TPanel) =>
            callK [(false, (Sy.int IntKind.i64).li), (false, Sy.int IntKind.i64)]
              (g_mins [encV true yPanel y3, encV true yLine a1])
              fun (y4 : List Int × Int) =>
              iteP (!decide (y4.snd = 0))
                (R (T.tup [T.sl false [], T.v (Value.int IntKind.i64 y4.snd)]))
                (reqK
                  (decide
                      (((List.map (Sy.int IntKind.i64).li.enc s2.snd.fst).length + 1) * 24 ≤
                        140737488355328) &&
                    decide ((List.map (Sy.int IntKind.i64).li.enc s2.snd.fst).length + 1 ≤ 140737488355328))
                  (decK (Sy.int IntKind.i64).li
                    (List.map (Sy.int IntKind.i64).li.enc s2.snd.fst ++
                      [[T.sl false (List.map (Sy.int IntKind.i64).enc y4.fst)]])
                    fun (y5 : List (List Int)) => X1 (IntKind.i64.wrap (s2.fst + 1), y5, ()))))
          (R
            (T.tup
              [T.sl false (List.map (Sy.int IntKind.i64).li.enc s2.snd.fst),
                T.v (Value.int IntKind.i64 0)])))
      (0, [], ()))
theorem F_jobs_eq (a0 : List TPanel) (a1 : TLine) (R : T → Prop) : sxTop stdC2 Tryz.prog E_jobs H_jobs 8 15 [encV false yPanel.li a0, encV true yLine a1] R = F_jobs a0 a1 R := by kernel_rfl
abbrev s_jobs : Sh := [(false, yPanel.li), (true, yLine)]
abbrev r_jobs : Sh := [(false, (Sy.int IntKind.i64).li.li), (false, Sy.int IntKind.i64)]
theorem r_jobs_call (y : Sh.den r_jobs) (K : Sh.den r_jobs → Prop) : callK r_jobs (some (Sh.enc r_jobs y)) K = K y := callK_enc rfl y K

set_option maxRecDepth 100000
noncomputable def E_jobs39 : Env := Env.of [(11, .pure g_mins39), (13, .pure g_chk39)]
def H_jobs39 : FuncId → Hint := fun f => match f == 16 with | true => ⟨fun r => match r == 6 with | true => .inv [.val 8 false (.int .i64), .own 7 1 (.li (.int .i64))] | false => .none, fun _ _ => none, fun _ => none⟩ | false => noHint
theorem Eok_jobs39 : EnvOk Tryz.prog E_jobs39 := EnvOk.cons (x := .pure g_mins39) fn_mins39 (EnvOk.cons (x := .pure g_chk39) fn_chk39 (EnvOk.nil _))
def F_jobs39 (a0 : List TPanel) (a1 : TLine) (R : T → Prop) : Prop :=
  callK [(false, Sy.int IntKind.i64)] (g_chk39 [encV true yLine a1]) fun (y0 : Int) =>
  iteP (!decide (y0 = 0)) (R (T.tup [T.sl false [], T.v (Value.int IntKind.i64 y0)]))
    (loopK (Int × List (List Int) × PUnit)
      (fun (X1 : Int × List (List Int) × PUnit → Prop) (s2 : Int × List (List Int) × PUnit) =>
        iteP (decide (s2.fst < (↑(List.map yPanel.enc a0).length : Int)))
          (rowsK yPanel (List.map yPanel.enc a0) s2.fst fun (y3 : TPanel) =>
            callK [(false, (Sy.int IntKind.i64).li), (false, Sy.int IntKind.i64)]
              (g_mins39 [encV true yPanel y3, encV true yLine a1])
              fun (y4 : List Int × Int) =>
              iteP (!decide (y4.snd = 0))
                (R (T.tup [T.sl false [], T.v (Value.int IntKind.i64 y4.snd)]))
                (reqK
                  (decide
                      (((List.map (Sy.int IntKind.i64).li.enc s2.snd.fst).length + 1) * 24 ≤
                        140737488355328) &&
                    decide ((List.map (Sy.int IntKind.i64).li.enc s2.snd.fst).length + 1 ≤ 140737488355328))
                  (decK (Sy.int IntKind.i64).li
                    (List.map (Sy.int IntKind.i64).li.enc s2.snd.fst ++
                      [[T.sl false (List.map (Sy.int IntKind.i64).enc y4.fst)]])
                    fun (y5 : List (List Int)) => X1 (IntKind.i64.wrap (s2.fst + 1), y5, ()))))
          (R
            (T.tup
              [T.sl false (List.map (Sy.int IntKind.i64).li.enc s2.snd.fst),
                T.v (Value.int IntKind.i64 0)])))
      (0, [], ()))
theorem F_jobs39_eq (a0 : List TPanel) (a1 : TLine) (R : T → Prop) : sxTop stdC2 Tryz.prog E_jobs39 H_jobs39 8 16 [encV false yPanel.li a0, encV true yLine a1] R = F_jobs39 a0 a1 R := by kernel_rfl
abbrev s_jobs39 : Sh := [(false, yPanel.li), (true, yLine)]
abbrev r_jobs39 : Sh := [(false, (Sy.int IntKind.i64).li.li), (false, Sy.int IntKind.i64)]
theorem r_jobs39_call (y : Sh.den r_jobs39) (K : Sh.den r_jobs39 → Prop) : callK r_jobs39 (some (Sh.enc r_jobs39 y)) K = K y := callK_enc rfl y K

set_option maxRecDepth 100000
noncomputable def E_same37 : Env := Env.of []
def H_same37 : FuncId → Hint := fun f => match f == 27 with | true => ⟨fun r => match r == 4 with | true => .inv [.val 5 false (.int .i64)] | false => .none, fun _ _ => none, fun _ => none⟩ | false => noHint
theorem Eok_same37 : EnvOk Tryz.prog E_same37 := EnvOk.nil _
def F_same37 (a0 : List Int) (a1 : List Int) (R : T → Prop) : Prop :=
  iteP
  (!decide
      ((↑(List.map (Sy.int IntKind.i64).enc a0).length : Int) =
        (↑(List.map (Sy.int IntKind.i64).enc a1).length : Int)))
  (R (T.v (Value.bool false)))
  (loopK (Int × PUnit)
    (fun (X0 : Int × PUnit → Prop) (s1 : Int × PUnit) =>
      iteP (decide (s1.fst < (↑(List.map (Sy.int IntKind.i64).enc a0).length : Int)))
        (rowsK (Sy.int IntKind.i64) (List.map (Sy.int IntKind.i64).enc a0) s1.fst
          fun (y2 : Int) =>
          rowsK (Sy.int IntKind.i64) (List.map (Sy.int IntKind.i64).enc a1) s1.fst
            fun (y3 : Int) =>
            iteP (!decide (y2 = y3)) (R (T.v (Value.bool false)))
              (X0 (IntKind.i64.wrap (s1.fst + 1), ())))
        (R (T.v (Value.bool true))))
    (0, ()))
theorem F_same37_eq (a0 : List Int) (a1 : List Int) (R : T → Prop) : sxTop stdC2 Tryz.prog E_same37 H_same37 8 27 [encV false (Sy.int IntKind.i64).li a0, encV false (Sy.int IntKind.i64).li a1] R = F_same37 a0 a1 R := by kernel_rfl
abbrev s_same37 : Sh := [(false, (Sy.int IntKind.i64).li), (false, (Sy.int IntKind.i64).li)]
abbrev r_same37 : Sh := [(false, Sy.bool)]
theorem r_same37_call (y : Sh.den r_same37) (K : Sh.den r_same37 → Prop) : callK r_same37 (some (Sh.enc r_same37 y)) K = K y := callK_enc rfl y K

def sp_jobs (x : List TPanel × TLine) : Option T := match decide (x.1.length ≤ 40) with
  | true => some (Sh.enc r_jobs (jobs x))
  | false => none
def sp_jobs39 (x : List TPanel × TLine) : Option T := match decide (x.1.length ≤ 40) with
  | true => some (Sh.enc r_jobs39 (jobs x))
  | false => none
def sp_same37 (x : List Int × List Int) : Option T := some (Sh.enc r_same37 (decide (x.1 = x.2)))
noncomputable def g_jobs : List T → Option (T) := gS s_jobs sp_jobs
theorem g_jobs_at {a0 : List TPanel} {a1 : TLine} : g_jobs [T.sl false (List.map yPanel.enc a0), encV true yLine a1] = sp_jobs (a0, a1) := gS_enc (s := s_jobs) rfl (a0, a1) rfl
theorem g_jobs_op {u0 u1 u2 u3 u4} : g_jobs [T.sl false (List.map yPanel.enc u0),
  T.agg
    [T.sl false (List.map (Sy.int IntKind.i64).enc u1),
      T.sl false (List.map (Sy.int IntKind.i64).enc u2),
      T.sl false (List.map (Sy.int IntKind.i64).enc u3),
      T.sl false (List.map (Sy.int IntKind.i64).enc u4)]] = sp_jobs (u0, (u1, (u2, (u3, u4)))) := gS_enc (s := s_jobs) rfl (u0, (u1, (u2, (u3, u4)))) rfl
theorem of_jobs (h : ∀ (a0 : List TPanel) (a1 : TLine) (r : T), sp_jobs (a0, a1) = some r → BdSh s_jobs (a0, a1) → F_jobs a0 a1 (fun y => y = r)) : PureFn Tryz.prog 15 g_jobs :=
  pureFn_S (E := E_jobs) (Hs := H_jobs) Eok_jobs mixed' plain' (noHeap_of rfl) 8 ⟨_, _, Tryz.func15, rfl⟩ rfl fun x r h1 h2 => by
    obtain ⟨a0, a1⟩ := x
    rw [show Sh.encs s_jobs (a0, a1) = [encV false yPanel.li a0, encV true yLine a1] from rfl, F_jobs_eq]
    exact h a0 a1 r h1 h2

noncomputable def g_jobs39 : List T → Option (T) := gS s_jobs39 sp_jobs39
theorem g_jobs39_at {a0 : List TPanel} {a1 : TLine} : g_jobs39 [T.sl false (List.map yPanel.enc a0), encV true yLine a1] = sp_jobs39 (a0, a1) := gS_enc (s := s_jobs39) rfl (a0, a1) rfl
theorem g_jobs39_op {u0 u1 u2 u3 u4} : g_jobs39 [T.sl false (List.map yPanel.enc u0),
  T.agg
    [T.sl false (List.map (Sy.int IntKind.i64).enc u1),
      T.sl false (List.map (Sy.int IntKind.i64).enc u2),
      T.sl false (List.map (Sy.int IntKind.i64).enc u3),
      T.sl false (List.map (Sy.int IntKind.i64).enc u4)]] = sp_jobs39 (u0, (u1, (u2, (u3, u4)))) := gS_enc (s := s_jobs39) rfl (u0, (u1, (u2, (u3, u4)))) rfl
theorem of_jobs39 (h : ∀ (a0 : List TPanel) (a1 : TLine) (r : T), sp_jobs39 (a0, a1) = some r → BdSh s_jobs39 (a0, a1) → F_jobs39 a0 a1 (fun y => y = r)) : PureFn Tryz.prog 16 g_jobs39 :=
  pureFn_S (E := E_jobs39) (Hs := H_jobs39) Eok_jobs39 mixed' plain' (noHeap_of rfl) 8 ⟨_, _, Tryz.func16, rfl⟩ rfl fun x r h1 h2 => by
    obtain ⟨a0, a1⟩ := x
    rw [show Sh.encs s_jobs39 (a0, a1) = [encV false yPanel.li a0, encV true yLine a1] from rfl, F_jobs39_eq]
    exact h a0 a1 r h1 h2

noncomputable def g_same37 : List T → Option (T) := gS s_same37 sp_same37
theorem g_same37_at {a0 : List Int} {a1 : List Int} : g_same37 [T.sl false (List.map (Sy.int IntKind.i64).enc a0),
  T.sl false (List.map (Sy.int IntKind.i64).enc a1)] = sp_same37 (a0, a1) := gS_enc (s := s_same37) rfl (a0, a1) rfl
theorem g_same37_op {u0 u1} : g_same37 [T.sl false (List.map (Sy.int IntKind.i64).enc u0),
  T.sl false (List.map (Sy.int IntKind.i64).enc u1)] = sp_same37 (u0, u1) := gS_enc (s := s_same37) rfl (u0, u1) rfl
theorem of_same37 (h : ∀ (a0 : List Int) (a1 : List Int) (r : T), sp_same37 (a0, a1) = some r → BdSh s_same37 (a0, a1) → F_same37 a0 a1 (fun y => y = r)) : PureFn Tryz.prog 27 g_same37 :=
  pureFn_S (E := E_same37) (Hs := H_same37) Eok_same37 mixed' plain' (noHeap_of rfl) 8 ⟨_, _, Tryz.func27, rfl⟩ rfl fun x r h1 h2 => by
    obtain ⟨a0, a1⟩ := x
    rw [show Sh.encs s_same37 (a0, a1) = [encV false (Sy.int IntKind.i64).li a0, encV false (Sy.int IntKind.i64).li a1] from rfl, F_same37_eq]
    exact h a0 a1 r h1 h2

end Go.Pv
