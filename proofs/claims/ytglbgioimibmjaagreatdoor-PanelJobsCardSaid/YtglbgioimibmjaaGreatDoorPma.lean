/-
  PanelMinutes: the functions.
-/
import Derived.Test.YtglbgioimibmjaaGreatDoorPa39
import Derived.Test.YtglbgioimibmjaaGreatDoorPsa
import Derived.Test.YtglbgioimibmjaaGreatDoorPkj
set_option linter.unusedSimpArgs false
set_option linter.unusedVariables false
set_option maxRecDepth 100000
namespace Go.Pv
open Go Go.Proofs
def inR (n : Int) : Bool := decide (0 ≤ n) && decide (n ≤ 1000)
def inL (x : TLine) : Bool := x.1.all inR && x.2.1.all inR && x.2.2.1.all inR && x.2.2.2.all inR
def chk (x : TLine) : Int :=
  if x.2.1.length = x.1.length ∧ x.2.2.1.length = x.1.length ∧ x.2.2.2.length = x.1.length then
    if x.1.length = 0 then 3 else if 8 < x.1.length then 4 else if inL x = true then 0 else 9
  else 17
def fewL (x : TLine) : Bool := decide ((x.1.length : Int) ≤ 12) && decide ((x.2.1.length : Int) ≤ 12) && decide ((x.2.2.1.length : Int) ≤ 12) && decide ((x.2.2.2.length : Int) ≤ 12)
def ceilO (x : Int × Int) : Option (Int × Int) := match decide (0 ≤ x.1) && decide (x.1 ≤ 9007199254740992) && decide (x.2 = 1000) with
  | true => some ((x.1 + 999) / 1000, 0)
  | false => none
set_option maxRecDepth 100000
noncomputable def E_ceil : Env := Env.of []
def H_ceil : FuncId → Hint := fun _ => noHint
theorem Eok_ceil : EnvOk Tryz.prog E_ceil := EnvOk.nil _
def F_ceil (a0 : Int) (a1 : Int) (R : T → Prop) : Prop :=
  iteP (decide (a1 = 0))
  (R (T.tup [T.v (Value.int IntKind.i64 0), T.v (Value.int IntKind.i64 22)]))
  (iteP (decide (a0 = -9223372036854775808))
    (iteP (decide (a1 = -1))
      (R (T.tup [T.v (Value.int IntKind.i64 0), T.v (Value.int IntKind.i64 21)]))
      (reqK (!decide (a1 = 0))
        (reqK (!decide (a1 = 0))
          (iteP (!decide (Int.tmod a0 a1 = 0))
            (iteP (decide (decide (Int.tmod a0 a1 < 0) = decide (a1 < 0)))
              (R
                (T.tup
                  [T.v
                      (Value.int IntKind.i64 (IntKind.i64.wrap (IntKind.i64.wrap (Int.tdiv a0 a1) + 1))),
                    T.v (Value.int IntKind.i64 0)]))
              (R
                (T.tup
                  [T.v (Value.int IntKind.i64 (IntKind.i64.wrap (Int.tdiv a0 a1))),
                    T.v (Value.int IntKind.i64 0)])))
            (R
              (T.tup
                [T.v (Value.int IntKind.i64 (IntKind.i64.wrap (Int.tdiv a0 a1))),
                  T.v (Value.int IntKind.i64 0)]))))))
    (reqK (!decide (a1 = 0))
      (reqK (!decide (a1 = 0))
        (iteP (!decide (Int.tmod a0 a1 = 0))
          (iteP (decide (decide (Int.tmod a0 a1 < 0) = decide (a1 < 0)))
            (R
              (T.tup
                [T.v
                    (Value.int IntKind.i64 (IntKind.i64.wrap (IntKind.i64.wrap (Int.tdiv a0 a1) + 1))),
                  T.v (Value.int IntKind.i64 0)]))
            (R
              (T.tup
                [T.v (Value.int IntKind.i64 (IntKind.i64.wrap (Int.tdiv a0 a1))),
                  T.v (Value.int IntKind.i64 0)])))
          (R
            (T.tup
              [T.v (Value.int IntKind.i64 (IntKind.i64.wrap (Int.tdiv a0 a1))),
                T.v (Value.int IntKind.i64 0)]))))))
theorem F_ceil_eq (a0 : Int) (a1 : Int) (R : T → Prop) : sxTop stdC2 Tryz.prog E_ceil H_ceil 8 25 [encV false (Sy.int IntKind.i64) a0, encV false (Sy.int IntKind.i64) a1] R = F_ceil a0 a1 R := by kernel_rfl
abbrev s_ceil : Sh := [(false, (Sy.int IntKind.i64)), (false, (Sy.int IntKind.i64))]
abbrev r_ceil : Sh := [(false, Sy.int IntKind.i64), (false, Sy.int IntKind.i64)]
theorem r_ceil_call (y : Sh.den r_ceil) (K : Sh.den r_ceil → Prop) : callK r_ceil (some (Sh.enc r_ceil y)) K = K y := callK_enc rfl y K

set_option maxRecDepth 100000
noncomputable def E_ceil01 : Env := Env.of []
def H_ceil01 : FuncId → Hint := fun _ => noHint
theorem Eok_ceil01 : EnvOk Tryz.prog E_ceil01 := EnvOk.nil _
def F_ceil01 (a0 : Int) (a1 : Int) (R : T → Prop) : Prop :=
  iteP (decide (a1 = 0))
  (R (T.tup [T.v (Value.int IntKind.i64 0), T.v (Value.int IntKind.i64 22)]))
  (iteP (decide (a0 = -9223372036854775808))
    (iteP (decide (a1 = -1))
      (R (T.tup [T.v (Value.int IntKind.i64 0), T.v (Value.int IntKind.i64 21)]))
      (reqK (!decide (a1 = 0))
        (reqK (!decide (a1 = 0))
          (iteP (!decide (Int.tmod a0 a1 = 0))
            (iteP (!decide (decide (a0 < 0) = decide (a1 < 0)))
              (reqK (!decide (a1 = 0))
                (iteP (!decide (Int.tmod a0 a1 = 0))
                  (R
                    (T.tup
                      [T.v
                          (Value.int IntKind.i64
                            (IntKind.i64.wrap (IntKind.i64.wrap (IntKind.i64.wrap (Int.tdiv a0 a1) - 1) + 1))),
                        T.v (Value.int IntKind.i64 0)]))
                  (R
                    (T.tup
                      [T.v
                          (Value.int IntKind.i64
                            (IntKind.i64.wrap (IntKind.i64.wrap (Int.tdiv a0 a1) - 1))),
                        T.v (Value.int IntKind.i64 0)]))))
              (reqK (!decide (a1 = 0))
                (iteP (!decide (Int.tmod a0 a1 = 0))
                  (R
                    (T.tup
                      [T.v
                          (Value.int IntKind.i64
                            (IntKind.i64.wrap (IntKind.i64.wrap (Int.tdiv a0 a1) + 1))),
                        T.v (Value.int IntKind.i64 0)]))
                  (R
                    (T.tup
                      [T.v (Value.int IntKind.i64 (IntKind.i64.wrap (Int.tdiv a0 a1))),
                        T.v (Value.int IntKind.i64 0)])))))
            (reqK (!decide (a1 = 0))
              (iteP (!decide (Int.tmod a0 a1 = 0))
                (R
                  (T.tup
                    [T.v
                        (Value.int IntKind.i64 (IntKind.i64.wrap (IntKind.i64.wrap (Int.tdiv a0 a1) + 1))),
                      T.v (Value.int IntKind.i64 0)]))
                (R
                  (T.tup
                    [T.v (Value.int IntKind.i64 (IntKind.i64.wrap (Int.tdiv a0 a1))),
                      T.v (Value.int IntKind.i64 0)]))))))))
    (reqK (!decide (a1 = 0))
      (reqK (!decide (a1 = 0))
        (iteP (!decide (Int.tmod a0 a1 = 0))
          (iteP (!decide (decide (a0 < 0) = decide (a1 < 0)))
            (reqK (!decide (a1 = 0))
              (iteP (!decide (Int.tmod a0 a1 = 0))
                (R
                  (T.tup
                    [T.v
                        (Value.int IntKind.i64
                          (IntKind.i64.wrap (IntKind.i64.wrap (IntKind.i64.wrap (Int.tdiv a0 a1) - 1) + 1))),
                      T.v (Value.int IntKind.i64 0)]))
                (R
                  (T.tup
                    [T.v
                        (Value.int IntKind.i64 (IntKind.i64.wrap (IntKind.i64.wrap (Int.tdiv a0 a1) - 1))),
                      T.v (Value.int IntKind.i64 0)]))))
            (reqK (!decide (a1 = 0))
              (iteP (!decide (Int.tmod a0 a1 = 0))
                (R
                  (T.tup
                    [T.v
                        (Value.int IntKind.i64 (IntKind.i64.wrap (IntKind.i64.wrap (Int.tdiv a0 a1) + 1))),
                      T.v (Value.int IntKind.i64 0)]))
                (R
                  (T.tup
                    [T.v (Value.int IntKind.i64 (IntKind.i64.wrap (Int.tdiv a0 a1))),
                      T.v (Value.int IntKind.i64 0)])))))
          (reqK (!decide (a1 = 0))
            (iteP (!decide (Int.tmod a0 a1 = 0))
              (R
                (T.tup
                  [T.v
                      (Value.int IntKind.i64 (IntKind.i64.wrap (IntKind.i64.wrap (Int.tdiv a0 a1) + 1))),
                    T.v (Value.int IntKind.i64 0)]))
              (R
                (T.tup
                  [T.v (Value.int IntKind.i64 (IntKind.i64.wrap (Int.tdiv a0 a1))),
                    T.v (Value.int IntKind.i64 0)]))))))))
theorem F_ceil01_eq (a0 : Int) (a1 : Int) (R : T → Prop) : sxTop stdC2 Tryz.prog E_ceil01 H_ceil01 8 26 [encV false (Sy.int IntKind.i64) a0, encV false (Sy.int IntKind.i64) a1] R = F_ceil01 a0 a1 R := by kernel_rfl
abbrev s_ceil01 : Sh := [(false, (Sy.int IntKind.i64)), (false, (Sy.int IntKind.i64))]
abbrev r_ceil01 : Sh := [(false, Sy.int IntKind.i64), (false, Sy.int IntKind.i64)]
theorem r_ceil01_call (y : Sh.den r_ceil01) (K : Sh.den r_ceil01 → Prop) : callK r_ceil01 (some (Sh.enc r_ceil01 y)) K = K y := callK_enc rfl y K

set_option maxRecDepth 100000
noncomputable def E_ints : Env := Env.of []
def H_ints : FuncId → Hint := fun f => match f == 14 with | true => ⟨fun r => match r == 4 with | true => .inv [.val 5 false (.int .i64)] | false => .none, fun _ _ => none, fun _ => none⟩ | false => noHint
theorem Eok_ints : EnvOk Tryz.prog E_ints := EnvOk.nil _
def F_ints (a0 : List Int) (a1 : List Int) (R : T → Prop) : Prop :=
  iteP
  (!decide
      ((↑(List.map (Sy.int IntKind.i64).enc a0).length : Int) =
        (↑(List.map (Sy.int IntKind.i64).enc a1).length : Int)))
  (R (T.v (Value.bool false)))
  (loopK (Int × PUnit)
    (fun (X0 : Int × PUnit → Prop) (s1 : Int × PUnit) =>
      iteP (decide (s1.fst < (↑(List.map (Sy.int IntKind.i64).enc a0).length : Int)))
        (rowsK (Sy.int IntKind.i64) (List.map (Sy.int IntKind.i64).enc a0) s1.fst
          fun (y2 : Int) =>
          rowsK (Sy.int IntKind.i64) (List.map (Sy.int IntKind.i64).enc a1) s1.fst
            fun (y3 : Int) =>
            iteP (!decide (y2 = y3)) (R (T.v (Value.bool false)))
              (X0 (IntKind.i64.wrap (s1.fst + 1), ())))
        (R (T.v (Value.bool true))))
    (0, ()))
theorem F_ints_eq (a0 : List Int) (a1 : List Int) (R : T → Prop) : sxTop stdC2 Tryz.prog E_ints H_ints 8 14 [encV false (Sy.int IntKind.i64).li a0, encV false (Sy.int IntKind.i64).li a1] R = F_ints a0 a1 R := by kernel_rfl
abbrev s_ints : Sh := [(false, (Sy.int IntKind.i64).li), (false, (Sy.int IntKind.i64).li)]
abbrev r_ints : Sh := [(false, Sy.bool)]
theorem r_ints_call (y : Sh.den r_ints) (K : Sh.den r_ints → Prop) : callK r_ints (some (Sh.enc r_ints y)) K = K y := callK_enc rfl y K

set_option maxRecDepth 100000
noncomputable def E_few39 : Env := Env.of []
def H_few39 : FuncId → Hint := fun _ => noHint
theorem Eok_few39 : EnvOk Tryz.prog E_few39 := EnvOk.nil _
def F_few39 (a0 : TLine) (R : T → Prop) : Prop :=
  iteP (decide ((↑(List.map (Sy.int IntKind.i64).enc a0.fst).length : Int) ≤ 12))
  (iteP (decide ((↑(List.map (Sy.int IntKind.i64).enc a0.snd.fst).length : Int) ≤ 12))
    (iteP (decide ((↑(List.map (Sy.int IntKind.i64).enc a0.snd.snd.fst).length : Int) ≤ 12))
      (R
        (T.v
          (Value.bool (decide ((↑(List.map (Sy.int IntKind.i64).enc a0.snd.snd.snd).length : Int) ≤ 12)))))
      (R (T.v (Value.bool false))))
    (R (T.v (Value.bool false))))
  (R (T.v (Value.bool false)))
theorem F_few39_eq (a0 : TLine) (R : T → Prop) : sxTop stdC2 Tryz.prog E_few39 H_few39 8 8 [encV true yLine a0] R = F_few39 a0 R := by kernel_rfl
abbrev s_few39 : Sh := [(true, yLine)]
abbrev r_few39 : Sh := [(false, Sy.bool)]
theorem r_few39_call (y : Sh.den r_few39) (K : Sh.den r_few39 → Prop) : callK r_few39 (some (Sh.enc r_few39 y)) K = K y := callK_enc rfl y K

set_option maxRecDepth 100000
noncomputable def E_chk : Env := Env.of []
def H_chk : FuncId → Hint := fun f => match f == 12 with | true => ⟨fun r => match r == 3 with | true => .unroll 5 | false => match r == 13 with | true => .unroll 5 | false => match r == 16 with | true => .inv [.val 44 false (.int .i64)] | false => .none, fun _ _ => none, fun _ => none⟩ | false => noHint
theorem Eok_chk : EnvOk Tryz.prog E_chk := EnvOk.nil _
def F_chk (a0 : TLine) (R : T → Prop) : Prop :=
  iteP
  (!decide
      ((↑(List.map (Sy.int IntKind.i64).enc a0.fst).length : Int) =
        (↑(List.map (Sy.int IntKind.i64).enc a0.fst).length : Int)))
  (R (T.v (Value.int IntKind.i64 17)))
  (iteP
    (!decide
        ((↑(List.map (Sy.int IntKind.i64).enc a0.snd.fst).length : Int) =
          (↑(List.map (Sy.int IntKind.i64).enc a0.fst).length : Int)))
    (R (T.v (Value.int IntKind.i64 17)))
    (iteP
      (!decide
          ((↑(List.map (Sy.int IntKind.i64).enc a0.snd.snd.fst).length : Int) =
            (↑(List.map (Sy.int IntKind.i64).enc a0.fst).length : Int)))
      (R (T.v (Value.int IntKind.i64 17)))
      (iteP
        (!decide
            ((↑(List.map (Sy.int IntKind.i64).enc a0.snd.snd.snd).length : Int) =
              (↑(List.map (Sy.int IntKind.i64).enc a0.fst).length : Int)))
        (R (T.v (Value.int IntKind.i64 17)))
        (iteP (decide ((↑(List.map (Sy.int IntKind.i64).enc a0.fst).length : Int) = 0))
          (R (T.v (Value.int IntKind.i64 3)))
          (iteP (decide (8 < (↑(List.map (Sy.int IntKind.i64).enc a0.fst).length : Int)))
            (R (T.v (Value.int IntKind.i64 4)))
            (loopK (Int × PUnit)
              (fun (X0 : Int × PUnit → Prop) (s1 : Int × PUnit) =>
                iteP (decide (s1.fst < (↑(List.map (Sy.int IntKind.i64).enc a0.fst).length : Int)))
                  (rowsK (Sy.int IntKind.i64) (List.map (Sy.int IntKind.i64).enc a0.fst) s1.fst
                    fun (y2 : Int) =>
                    iteP (decide (0 ≤ y2))
                      (iteP (!decide (y2 ≤ 1000)) (R (T.v (Value.int IntKind.i64 9)))
                        (X0 (IntKind.i64.wrap (s1.fst + 1), ())))
                      (R (T.v (Value.int IntKind.i64 9))))
                  (loopK (Int × PUnit)
                    (fun (X3 : Int × PUnit → Prop) (s4 : Int × PUnit) =>
                      iteP
                        (decide (s4.fst < (↑(List.map (Sy.int IntKind.i64).enc a0.snd.fst).length : Int)))
                        (rowsK (Sy.int IntKind.i64)
                          (List.map (Sy.int IntKind.i64).enc a0.snd.fst) s4.fst fun (y5 : Int) =>
                          iteP (decide (0 ≤ y5))
                            (iteP (!decide (y5 ≤ 1000)) (R (T.v (Value.int IntKind.i64 9)))
                              (X3 (IntKind.i64.wrap (s4.fst + 1), ())))
                            (R (T.v (Value.int IntKind.i64 9))))
                        (loopK (Int × PUnit)
                          (fun (X6 : Int × PUnit → Prop) (s7 : Int × PUnit) =>
                            iteP
                              (decide
                                (s7.fst < (↑(List.map (Sy.int IntKind.i64).enc a0.snd.snd.fst).length : Int)))
                              (rowsK (Sy.int IntKind.i64)
                                (List.map (Sy.int IntKind.i64).enc a0.snd.snd.fst) s7.fst fun (y8 : Int) =>
                                iteP (decide (0 ≤ y8))
                                  (iteP (!decide (y8 ≤ 1000)) (R (T.v (Value.int IntKind.i64 9)))
                                    (X6 (IntKind.i64.wrap (s7.fst + 1), ())))
                                  (R (T.v (Value.int IntKind.i64 9))))
                              (loopK (Int × PUnit)
                                (fun (X9 : Int × PUnit → Prop) (s10 : Int × PUnit) =>
                                  iteP
                                    (decide
                                      (s10.fst <
                                        (↑(List.map (Sy.int IntKind.i64).enc a0.snd.snd.snd).length : Int)))
                                    (rowsK (Sy.int IntKind.i64)
                                      (List.map (Sy.int IntKind.i64).enc a0.snd.snd.snd) s10.fst
                                      fun (y11 : Int) =>
                                      iteP (decide (0 ≤ y11))
                                        (iteP (!decide (y11 ≤ 1000))
                                          (R (T.v (Value.int IntKind.i64 9)))
                                          (X9 (IntKind.i64.wrap (s10.fst + 1), ())))
                                        (R (T.v (Value.int IntKind.i64 9))))
                                    (R (T.v (Value.int IntKind.i64 0))))
                                (0, ())))
                          (0, ())))
                    (0, ())))
              (0, ())))))))
theorem F_chk_eq (a0 : TLine) (R : T → Prop) : sxTop stdC2 Tryz.prog E_chk H_chk 8 12 [encV true yLine a0] R = F_chk a0 R := by kernel_rfl
abbrev s_chk : Sh := [(true, yLine)]
abbrev r_chk : Sh := [(false, Sy.int IntKind.i64)]
theorem r_chk_call (y : Sh.den r_chk) (K : Sh.den r_chk → Prop) : callK r_chk (some (Sh.enc r_chk y)) K = K y := callK_enc rfl y K

set_option maxRecDepth 100000
noncomputable def E_chk39 : Env := Env.of []
def H_chk39 : FuncId → Hint := fun f => match f == 13 with | true => ⟨fun r => match r == 9 with | true => .inv [.val 4 false (.int .i64)] | false => .none, fun _ _ => none, fun _ => none⟩ | false => noHint
theorem Eok_chk39 : EnvOk Tryz.prog E_chk39 := EnvOk.nil _
def F_chk39 (a0 : TLine) (R : T → Prop) : Prop :=
  iteP
  (!decide
      ((↑(List.map (Sy.int IntKind.i64).enc a0.snd.fst).length : Int) =
        (↑(List.map (Sy.int IntKind.i64).enc a0.fst).length : Int)))
  (R (T.v (Value.int IntKind.i64 17)))
  (iteP
    (!decide
        ((↑(List.map (Sy.int IntKind.i64).enc a0.snd.snd.fst).length : Int) =
          (↑(List.map (Sy.int IntKind.i64).enc a0.fst).length : Int)))
    (R (T.v (Value.int IntKind.i64 17)))
    (iteP
      (!decide
          ((↑(List.map (Sy.int IntKind.i64).enc a0.snd.snd.snd).length : Int) =
            (↑(List.map (Sy.int IntKind.i64).enc a0.fst).length : Int)))
      (R (T.v (Value.int IntKind.i64 17)))
      (iteP (decide ((↑(List.map (Sy.int IntKind.i64).enc a0.fst).length : Int) = 0))
        (R (T.v (Value.int IntKind.i64 3)))
        (iteP (decide (8 < (↑(List.map (Sy.int IntKind.i64).enc a0.fst).length : Int)))
          (R (T.v (Value.int IntKind.i64 4)))
          (loopK (Int × PUnit)
            (fun (X0 : Int × PUnit → Prop) (s1 : Int × PUnit) =>
              iteP (decide (s1.fst < (↑(List.map (Sy.int IntKind.i64).enc a0.fst).length : Int)))
                (rowsK (Sy.int IntKind.i64) (List.map (Sy.int IntKind.i64).enc a0.fst) s1.fst
                  fun (y2 : Int) =>
                  rowsK (Sy.int IntKind.i64) (List.map (Sy.int IntKind.i64).enc a0.snd.fst)
                    s1.fst fun (y3 : Int) =>
                    rowsK (Sy.int IntKind.i64)
                      (List.map (Sy.int IntKind.i64).enc a0.snd.snd.fst) s1.fst fun (y4 : Int) =>
                      rowsK (Sy.int IntKind.i64)
                        (List.map (Sy.int IntKind.i64).enc a0.snd.snd.snd) s1.fst fun (y5 : Int) =>
                        iteP
                          (decide
                            ((if y5 < if y4 < if y3 < y2 then y3 else y2 then y4 else if y3 < y2 then y3 else y2 then y5
                              else if y4 < if y3 < y2 then y3 else y2 then y4 else if y3 < y2 then y3 else y2) <
                              0))
                          (R (T.v (Value.int IntKind.i64 9)))
                          (rowsK (Sy.int IntKind.i64) (List.map (Sy.int IntKind.i64).enc a0.fst)
                            s1.fst fun (y6 : Int) =>
                            rowsK (Sy.int IntKind.i64)
                              (List.map (Sy.int IntKind.i64).enc a0.snd.fst) s1.fst fun (y7 : Int) =>
                              rowsK (Sy.int IntKind.i64)
                                (List.map (Sy.int IntKind.i64).enc a0.snd.snd.fst) s1.fst fun (y8 : Int) =>
                                rowsK (Sy.int IntKind.i64)
                                  (List.map (Sy.int IntKind.i64).enc a0.snd.snd.snd) s1.fst fun (y9 : Int) =>
                                  iteP
                                    (decide
                                      (1000 <
                                        if
                                            (if (if y6 < y7 then y7 else y6) < y8 then y8
                                              else if y6 < y7 then y7 else y6) <
                                              y9 then
                                          y9
                                        else
                                          if (if y6 < y7 then y7 else y6) < y8 then y8 else if y6 < y7 then y7 else y6))
                                    (R (T.v (Value.int IntKind.i64 9)))
                                    (X0 (IntKind.i64.wrap (s1.fst + 1), ()))))
                (R (T.v (Value.int IntKind.i64 0))))
            (0, ()))))))
theorem F_chk39_eq (a0 : TLine) (R : T → Prop) : sxTop stdC2 Tryz.prog E_chk39 H_chk39 8 13 [encV true yLine a0] R = F_chk39 a0 R := by kernel_rfl
abbrev s_chk39 : Sh := [(true, yLine)]
abbrev r_chk39 : Sh := [(false, Sy.int IntKind.i64)]
theorem r_chk39_call (y : Sh.den r_chk39) (K : Sh.den r_chk39 → Prop) : callK r_chk39 (some (Sh.enc r_chk39 y)) K = K y := callK_enc rfl y K

def sp_ceil (x : Int × Int) : Option T := (ceilO x).map (Sh.enc r_ceil)
def sp_ceil01 (x : Int × Int) : Option T := (ceilO x).map (Sh.enc r_ceil01)
def sp_ints (x : List Int × List Int) : Option T := some (Sh.enc r_ints (decide (x.1 = x.2)))
def sp_few39 (x : TLine) : Option T := some (Sh.enc r_few39 (fewL x))
def sp_chk (x : TLine) : Option T := some (Sh.enc r_chk (chk x))
def sp_chk39 (x : TLine) : Option T := some (Sh.enc r_chk39 (chk x))
noncomputable def g_ceil : List T → Option (T) := gS s_ceil sp_ceil
theorem g_ceil_at {a0 : Int} {a1 : Int} : g_ceil [T.v (Value.int IntKind.i64 a0), T.v (Value.int IntKind.i64 a1)] = sp_ceil (a0, a1) := gS_enc (s := s_ceil) rfl (a0, a1) rfl
theorem g_ceil_op {u0 u1} : g_ceil [T.v (Value.int IntKind.i64 u0), T.v (Value.int IntKind.i64 u1)] = sp_ceil (u0, u1) := gS_enc (s := s_ceil) rfl (u0, u1) rfl
theorem of_ceil (h : ∀ (a0 : Int) (a1 : Int) (r : T), sp_ceil (a0, a1) = some r → BdSh s_ceil (a0, a1) → F_ceil a0 a1 (fun y => y = r)) : PureFn Tryz.prog 25 g_ceil :=
  pureFn_S (E := E_ceil) (Hs := H_ceil) Eok_ceil mixed' plain' (noHeap_of rfl) 8 ⟨_, _, Tryz.func25, rfl⟩ rfl fun x r h1 h2 => by
    obtain ⟨a0, a1⟩ := x
    rw [show Sh.encs s_ceil (a0, a1) = [encV false (Sy.int IntKind.i64) a0, encV false (Sy.int IntKind.i64) a1] from rfl, F_ceil_eq]
    exact h a0 a1 r h1 h2

noncomputable def g_ceil01 : List T → Option (T) := gS s_ceil01 sp_ceil01
theorem g_ceil01_at {a0 : Int} {a1 : Int} : g_ceil01 [T.v (Value.int IntKind.i64 a0), T.v (Value.int IntKind.i64 a1)] = sp_ceil01 (a0, a1) := gS_enc (s := s_ceil01) rfl (a0, a1) rfl
theorem g_ceil01_op {u0 u1} : g_ceil01 [T.v (Value.int IntKind.i64 u0), T.v (Value.int IntKind.i64 u1)] = sp_ceil01 (u0, u1) := gS_enc (s := s_ceil01) rfl (u0, u1) rfl
theorem of_ceil01 (h : ∀ (a0 : Int) (a1 : Int) (r : T), sp_ceil01 (a0, a1) = some r → BdSh s_ceil01 (a0, a1) → F_ceil01 a0 a1 (fun y => y = r)) : PureFn Tryz.prog 26 g_ceil01 :=
  pureFn_S (E := E_ceil01) (Hs := H_ceil01) Eok_ceil01 mixed' plain' (noHeap_of rfl) 8 ⟨_, _, Tryz.func26, rfl⟩ rfl fun x r h1 h2 => by
    obtain ⟨a0, a1⟩ := x
    rw [show Sh.encs s_ceil01 (a0, a1) = [encV false (Sy.int IntKind.i64) a0, encV false (Sy.int IntKind.i64) a1] from rfl, F_ceil01_eq]
    exact h a0 a1 r h1 h2

noncomputable def g_ints : List T → Option (T) := gS s_ints sp_ints
theorem g_ints_at {a0 : List Int} {a1 : List Int} : g_ints [T.sl false (List.map (Sy.int IntKind.i64).enc a0),
  T.sl false (List.map (Sy.int IntKind.i64).enc a1)] = sp_ints (a0, a1) := gS_enc (s := s_ints) rfl (a0, a1) rfl
theorem g_ints_op {u0 u1} : g_ints [T.sl false (List.map (Sy.int IntKind.i64).enc u0),
  T.sl false (List.map (Sy.int IntKind.i64).enc u1)] = sp_ints (u0, u1) := gS_enc (s := s_ints) rfl (u0, u1) rfl
theorem of_ints (h : ∀ (a0 : List Int) (a1 : List Int) (r : T), sp_ints (a0, a1) = some r → BdSh s_ints (a0, a1) → F_ints a0 a1 (fun y => y = r)) : PureFn Tryz.prog 14 g_ints :=
  pureFn_S (E := E_ints) (Hs := H_ints) Eok_ints mixed' plain' (noHeap_of rfl) 8 ⟨_, _, Tryz.func14, rfl⟩ rfl fun x r h1 h2 => by
    obtain ⟨a0, a1⟩ := x
    rw [show Sh.encs s_ints (a0, a1) = [encV false (Sy.int IntKind.i64).li a0, encV false (Sy.int IntKind.i64).li a1] from rfl, F_ints_eq]
    exact h a0 a1 r h1 h2

noncomputable def g_few39 : List T → Option (T) := gS s_few39 sp_few39
theorem g_few39_at {a0 : TLine} : g_few39 [encV true yLine a0] = sp_few39 (a0) := gS_enc (s := s_few39) rfl (a0) rfl
theorem g_few39_op {u0 u1 u2 u3} : g_few39 [T.agg
    [T.sl false (List.map (Sy.int IntKind.i64).enc u0),
      T.sl false (List.map (Sy.int IntKind.i64).enc u1),
      T.sl false (List.map (Sy.int IntKind.i64).enc u2),
      T.sl false (List.map (Sy.int IntKind.i64).enc u3)]] = sp_few39 ((u0, (u1, (u2, u3)))) := gS_enc (s := s_few39) rfl ((u0, (u1, (u2, u3)))) rfl
theorem of_few39 (h : ∀ (a0 : TLine) (r : T), sp_few39 (a0) = some r → BdSh s_few39 (a0) → F_few39 a0 (fun y => y = r)) : PureFn Tryz.prog 8 g_few39 :=
  pureFn_S (E := E_few39) (Hs := H_few39) Eok_few39 mixed' plain' (noHeap_of rfl) 8 ⟨_, _, Tryz.func8, rfl⟩ rfl fun x r h1 h2 => by
    let a0 := x
    rw [show Sh.encs s_few39 (a0) = [encV true yLine a0] from rfl, F_few39_eq]
    exact h a0 r h1 h2

noncomputable def g_chk : List T → Option (T) := gS s_chk sp_chk
theorem g_chk_at {a0 : TLine} : g_chk [encV true yLine a0] = sp_chk (a0) := gS_enc (s := s_chk) rfl (a0) rfl
theorem g_chk_op {u0 u1 u2 u3} : g_chk [T.agg
    [T.sl false (List.map (Sy.int IntKind.i64).enc u0),
      T.sl false (List.map (Sy.int IntKind.i64).enc u1),
      T.sl false (List.map (Sy.int IntKind.i64).enc u2),
      T.sl false (List.map (Sy.int IntKind.i64).enc u3)]] = sp_chk ((u0, (u1, (u2, u3)))) := gS_enc (s := s_chk) rfl ((u0, (u1, (u2, u3)))) rfl
theorem of_chk (h : ∀ (a0 : TLine) (r : T), sp_chk (a0) = some r → BdSh s_chk (a0) → F_chk a0 (fun y => y = r)) : PureFn Tryz.prog 12 g_chk :=
  pureFn_S (E := E_chk) (Hs := H_chk) Eok_chk mixed' plain' (noHeap_of rfl) 8 ⟨_, _, Tryz.func12, rfl⟩ rfl fun x r h1 h2 => by
    let a0 := x
    rw [show Sh.encs s_chk (a0) = [encV true yLine a0] from rfl, F_chk_eq]
    exact h a0 r h1 h2

noncomputable def g_chk39 : List T → Option (T) := gS s_chk39 sp_chk39
theorem g_chk39_at {a0 : TLine} : g_chk39 [encV true yLine a0] = sp_chk39 (a0) := gS_enc (s := s_chk39) rfl (a0) rfl
theorem g_chk39_op {u0 u1 u2 u3} : g_chk39 [T.agg
    [T.sl false (List.map (Sy.int IntKind.i64).enc u0),
      T.sl false (List.map (Sy.int IntKind.i64).enc u1),
      T.sl false (List.map (Sy.int IntKind.i64).enc u2),
      T.sl false (List.map (Sy.int IntKind.i64).enc u3)]] = sp_chk39 ((u0, (u1, (u2, u3)))) := gS_enc (s := s_chk39) rfl ((u0, (u1, (u2, u3)))) rfl
theorem of_chk39 (h : ∀ (a0 : TLine) (r : T), sp_chk39 (a0) = some r → BdSh s_chk39 (a0) → F_chk39 a0 (fun y => y = r)) : PureFn Tryz.prog 13 g_chk39 :=
  pureFn_S (E := E_chk39) (Hs := H_chk39) Eok_chk39 mixed' plain' (noHeap_of rfl) 8 ⟨_, _, Tryz.func13, rfl⟩ rfl fun x r h1 h2 => by
    let a0 := x
    rw [show Sh.encs s_chk39 (a0) = [encV true yLine a0] from rfl, F_chk39_eq]
    exact h a0 r h1 h2

end Go.Pv
