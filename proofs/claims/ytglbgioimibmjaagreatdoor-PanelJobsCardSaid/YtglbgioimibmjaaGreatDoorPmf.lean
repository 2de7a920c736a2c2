/-
  PanelMore: the law's function.
-/
import Derived.Test.YtglbgioimibmjaaGreatDoorPme
set_option linter.unusedSimpArgs false
set_option linter.unusedVariables false
set_option maxRecDepth 100000
namespace Go.Pv
open Go Go.Proofs
theorem minL_len {p : TPanel} : ∀ {a b c d : List Int}, b.length = a.length → c.length = a.length → d.length = a.length → (minL p a b c d).length = a.length
  | [], b, c, d, h1, h2, h3 => by cases b <;> cases c <;> cases d <;> simp_all [minL]
  | x :: a, [], c, d, h1, h2, h3 => by simp at h1
  | x :: a, y :: b, [], d, h1, h2, h3 => by simp at h2
  | x :: a, y :: b, z :: c, [], h1, h2, h3 => by simp at h3
  | x :: a, y :: b, z :: c, w :: d, h1, h2, h3 => by
    simp only [List.length_cons] at h1 h2 h3
    simp only [minL, List.length_cons]
    rw [minL_len (by omega) (by omega) (by omega)]
theorem minL_get {p : TPanel} : ∀ {a b c d : List Int} {k : Nat} (ha : k < a.length) (hb : k < b.length) (hc : k < c.length) (hd : k < d.length) (h : k < (minL p a b c d).length), (minL p a b c d)[k] = minAt p a[k] b[k] c[k] d[k]
  | x :: a, y :: b, z :: c, w :: d, 0, ha, hb, hc, hd, h => by simp only [minL, List.getElem_cons_zero]
  | x :: a, y :: b, z :: c, w :: d, k + 1, ha, hb, hc, hd, h => by
    simp only [minL, List.getElem_cons_succ]
    exact minL_get (by simpa using ha) (by simpa using hb) (by simpa using hc) (by simpa using hd) (by simpa [minL] using h)
/-- One plate and a metre of butt seam more. -/
def moreP (p : TPanel) : TPanel := (p.1, p.2.1 + 1, p.2.2.1, p.2.2.2.1 + 1000, p.2.2.2.2.1, p.2.2.2.2.2)
def moreQ (p : TPanel) : TPanel := (p.1, p.2.1, p.2.2.1 + 1, p.2.2.2.1, p.2.2.2.2.1 + 1000, p.2.2.2.2.2)
theorem minAt_P (p : TPanel) (a b c d : Int) : minAt (moreP p) a b c d = minAt p a b c d + a + c := by
  unfold minAt moreP
  simp only [Int.add_mul, Int.one_mul]
  generalize p.2.1 * a = u1
  generalize p.2.2.1 * b = u2
  generalize p.2.2.2.1 * c = u3
  generalize p.2.2.2.2.1 * d = u4
  omega
theorem minAt_Q (p : TPanel) (a b c d : Int) : minAt (moreQ p) a b c d = minAt p a b c d + b + d := by
  unfold minAt moreQ
  simp only [Int.add_mul, Int.one_mul]
  generalize p.2.1 * a = u1
  generalize p.2.2.1 * b = u2
  generalize p.2.2.2.1 * c = u3
  generalize p.2.2.2.2.1 * d = u4
  omega
def sp_lawMore (x : TPanel × TLine) : Option T := some (.v (.bool true))
set_option maxRecDepth 100000
noncomputable def E_lawMore : Env := Env.of [(8, .pure g_few39), (10, .pure g_mins), (12, .pure g_chk), (9, .pure g_alive39)]
def H_lawMore : FuncId → Hint := fun f => match f == 6 with | true => ⟨fun r => match r == 18 with | true => .inv [.val 13 false (.int .i64)] | false => .none, fun _ _ => none, fun _ => none⟩ | false => noHint
theorem Eok_lawMore : EnvOk Tryz.prog E_lawMore := EnvOk.cons (x := .pure g_few39) fn_few39 (EnvOk.cons (x := .pure g_mins) fn_mins (EnvOk.cons (x := .pure g_chk) fn_chk (EnvOk.cons (x := .pure g_alive39) fn_alive39 (EnvOk.nil _))))
def F_lawMore (a0 : TPanel) (a1 : TLine) (R : T → Prop) : Prop :=
  callK [(false, Sy.bool)] (g_few39 [encV true yLine a1]) fun (y0 : Bool) =>
  iteP (!y0)
    (callK [(false, Sy.bool)] (g_alive39 []) fun (y1 : Bool) => R (T.v (Value.bool y1)))
    (iteP (decide (a0.snd.fst < 0))
      (callK [(false, Sy.bool)] (g_alive39 []) fun (y2 : Bool) => R (T.v (Value.bool y2)))
      (iteP (decide (256 ≤ a0.snd.fst))
        (callK [(false, Sy.bool)] (g_alive39 []) fun (y3 : Bool) => R (T.v (Value.bool y3)))
        (iteP (decide (a0.snd.snd.fst < 0))
          (callK [(false, Sy.bool)] (g_alive39 []) fun (y4 : Bool) =>
            R (T.v (Value.bool y4)))
          (iteP (decide (256 ≤ a0.snd.snd.fst))
            (callK [(false, Sy.bool)] (g_alive39 []) fun (y5 : Bool) =>
              R (T.v (Value.bool y5)))
            (iteP (decide (a0.snd.snd.snd.fst < 0))
              (callK [(false, Sy.bool)] (g_alive39 []) fun (y6 : Bool) =>
                R (T.v (Value.bool y6)))
              (iteP (decide (8387608 < a0.snd.snd.snd.fst))
                (callK [(false, Sy.bool)] (g_alive39 []) fun (y7 : Bool) =>
                  R (T.v (Value.bool y7)))
                (iteP (decide (a0.snd.snd.snd.snd.fst < 0))
                  (callK [(false, Sy.bool)] (g_alive39 []) fun (y8 : Bool) =>
                    R (T.v (Value.bool y8)))
                  (iteP (decide (8387608 < a0.snd.snd.snd.snd.fst))
                    (callK [(false, Sy.bool)] (g_alive39 []) fun (y9 : Bool) =>
                      R (T.v (Value.bool y9)))
                    (callK [(false, (Sy.int IntKind.i64).li), (false, Sy.int IntKind.i64)]
                      (g_mins [encV true yPanel a0, encV true yLine a1])
                      fun (y10 : List Int × Int) =>
                      callK [(false, (Sy.int IntKind.i64).li), (false, Sy.int IntKind.i64)]
                        (g_mins
                          [T.agg
                              [T.v (Value.string a0.fst),
                                T.v (Value.int IntKind.i64 (IntKind.i64.wrap (a0.snd.fst + 1))),
                                T.v (Value.int IntKind.i64 a0.snd.snd.fst),
                                T.v
                                  (Value.int IntKind.i64 (IntKind.i64.wrap (a0.snd.snd.snd.fst + 1000))),
                                T.v (Value.int IntKind.i64 a0.snd.snd.snd.snd.fst),
                                T.v (Value.int IntKind.i64 a0.snd.snd.snd.snd.snd)],
                            encV true yLine a1])
                        fun (y11 : List Int × Int) =>
                        callK [(false, (Sy.int IntKind.i64).li), (false, Sy.int IntKind.i64)]
                          (g_mins
                            [T.agg
                                [T.v (Value.string a0.fst), T.v (Value.int IntKind.i64 a0.snd.fst),
                                  T.v (Value.int IntKind.i64 (IntKind.i64.wrap (a0.snd.snd.fst + 1))),
                                  T.v (Value.int IntKind.i64 a0.snd.snd.snd.fst),
                                  T.v
                                    (Value.int IntKind.i64 (IntKind.i64.wrap (a0.snd.snd.snd.snd.fst + 1000))),
                                  T.v (Value.int IntKind.i64 a0.snd.snd.snd.snd.snd)],
                              encV true yLine a1])
                          fun (y12 : List Int × Int) =>
                          iteP (!decide (y10.snd = y11.snd)) (R (T.v (Value.bool false)))
                            (iteP (!decide (y10.snd = y12.snd)) (R (T.v (Value.bool false)))
                              (callK [(false, Sy.int IntKind.i64)]
                                (g_chk [encV true yLine a1]) fun (y13 : Int) =>
                                iteP (!decide (y10.snd = y13)) (R (T.v (Value.bool false)))
                                  (iteP (!decide (y10.snd = 0))
                                    (iteP
                                      (decide
                                        ((↑(List.map (Sy.int IntKind.i64).enc y10.fst).length : Int) = 0))
                                      (callK [(false, Sy.bool)] (g_alive39 []) fun (y14 : Bool) =>
                                        R (T.v (Value.bool y14)))
                                      (R (T.v (Value.bool false))))
                                    (iteP
                                      (!decide
                                          ((↑(List.map (Sy.int IntKind.i64).enc y10.fst).length : Int) =
                                            (↑(List.map (Sy.int IntKind.i64).enc a1.fst).length : Int)))
                                      (R (T.v (Value.bool false)))
                                      (iteP
                                        (!decide
                                            ((↑(List.map (Sy.int IntKind.i64).enc y11.fst).length : Int) =
                                              (↑(List.map (Sy.int IntKind.i64).enc y10.fst).length : Int)))
                                        (R (T.v (Value.bool false)))
                                        (iteP
                                          (!decide
                                              ((↑(List.map (Sy.int IntKind.i64).enc y12.fst).length : Int) =
                                                (↑(List.map (Sy.int IntKind.i64).enc y10.fst).length : Int)))
                                          (R (T.v (Value.bool false)))
                                          (iteP
                                            (!decide
                                                ((↑(List.map (Sy.int IntKind.i64).enc a1.snd.fst).length :
                                                    Int) =
                                                  (↑(List.map (Sy.int IntKind.i64).enc y10.fst).length : Int)))
                                            (R (T.v (Value.bool false)))
                                            (iteP
                                              (!decide
                                                  ((↑(List.map (Sy.int IntKind.i64).enc
                                                            a1.snd.snd.fst).length :
                                                      Int) =
                                                    (↑(List.map (Sy.int IntKind.i64).enc y10.fst).length :
                                                      Int)))
                                              (R (T.v (Value.bool false)))
                                              (iteP
                                                (!decide
                                                    ((↑(List.map (Sy.int IntKind.i64).enc
                                                              a1.snd.snd.snd).length :
                                                        Int) =
                                                      (↑(List.map (Sy.int IntKind.i64).enc y10.fst).length :
                                                        Int)))
                                                (R (T.v (Value.bool false)))
                                                (loopK (Int × PUnit)
                                                  (fun (X15 : Int × PUnit → Prop) (s16 : Int × PUnit) =>
                                                    iteP
                                                      (decide
                                                        (s16.fst <
                                                          (↑(List.map (Sy.int IntKind.i64).enc
                                                                  y10.fst).length :
                                                            Int)))
                                                      (rowsK (Sy.int IntKind.i64)
                                                        (List.map (Sy.int IntKind.i64).enc y11.fst) s16.fst
                                                        fun (y17 : Int) =>
                                                        rowsK (Sy.int IntKind.i64)
                                                          (List.map (Sy.int IntKind.i64).enc y10.fst) s16.fst
                                                          fun (y18 : Int) =>
                                                          rowsK (Sy.int IntKind.i64)
                                                            (List.map (Sy.int IntKind.i64).enc a1.fst) s16.fst
                                                            fun (y19 : Int) =>
                                                            rowsK (Sy.int IntKind.i64)
                                                              (List.map (Sy.int IntKind.i64).enc
                                                                a1.snd.snd.fst)
                                                              s16.fst fun (y20 : Int) =>
                                                              iteP
                                                                (!decide
                                                                    (y17 =
                                                                      IntKind.i64.wrap
                                                                        (IntKind.i64.wrap (y18 + y19) + y20)))
                                                                (R (T.v (Value.bool false)))
                                                                (rowsK (Sy.int IntKind.i64)
                                                                  (List.map (Sy.int IntKind.i64).enc y12.fst)
                                                                  s16.fst fun (y21 : Int) =>
                                                                  rowsK (Sy.int IntKind.i64)
                                                                    (List.map (Sy.int IntKind.i64).enc y10.fst)
                                                                    s16.fst fun (y22 : Int) =>
                                                                    rowsK (Sy.int IntKind.i64)
                                                                      (List.map (Sy.int IntKind.i64).enc
                                                                        a1.snd.fst)
                                                                      s16.fst fun (y23 : Int) =>
                                                                      rowsK (Sy.int IntKind.i64)
                                                                        (List.map (Sy.int IntKind.i64).enc
                                                                          a1.snd.snd.snd)
                                                                        s16.fst fun (y24 : Int) =>
                                                                        iteP
                                                                          (!decide
                                                                              (y21 =
                                                                                IntKind.i64.wrap
                                                                                  (IntKind.i64.wrap (y22 + y23) +
                                                                                    y24)))
                                                                          (R (T.v (Value.bool false)))
                                                                          (X15
                                                                            (IntKind.i64.wrap (s16.fst + 1), ()))))
                                                      (callK [(false, Sy.bool)] (g_alive39 [])
                                                        fun (y25 : Bool) => R (T.v (Value.bool y25))))
                                                  (0, ()))))))))))))))))))))
theorem F_lawMore_eq (a0 : TPanel) (a1 : TLine) (R : T → Prop) : sxTop stdC2 Tryz.prog E_lawMore H_lawMore 8 6 [encV true yPanel a0, encV true yLine a1] R = F_lawMore a0 a1 R := by kernel_rfl
abbrev s_lawMore : Sh := [(true, yPanel), (true, yLine)]
abbrev r_lawMore : Sh := [(false, Sy.bool)]
theorem r_lawMore_call (y : Sh.den r_lawMore) (K : Sh.den r_lawMore → Prop) : callK r_lawMore (some (Sh.enc r_lawMore y)) K = K y := callK_enc rfl y K

noncomputable def g_lawMore : List T → Option (T) := gS s_lawMore sp_lawMore
theorem g_lawMore_at {a0 : TPanel} {a1 : TLine} : g_lawMore [encV true yPanel a0, encV true yLine a1] = sp_lawMore (a0, a1) := gS_enc (s := s_lawMore) rfl (a0, a1) rfl
theorem g_lawMore_op {u0 u1 u2 u3 u4 u5 u6 u7 u8 u9} : g_lawMore [T.agg
    [T.v (Value.string u0), T.v (Value.int IntKind.i64 u1),
      T.v (Value.int IntKind.i64 u2),
      T.v (Value.int IntKind.i64 u3),
      T.v (Value.int IntKind.i64 u4),
      T.v (Value.int IntKind.i64 u5)],
  T.agg
    [T.sl false (List.map (Sy.int IntKind.i64).enc u6),
      T.sl false (List.map (Sy.int IntKind.i64).enc u7),
      T.sl false (List.map (Sy.int IntKind.i64).enc u8),
      T.sl false (List.map (Sy.int IntKind.i64).enc u9)]] = sp_lawMore ((u0, (u1, (u2, (u3, (u4, u5))))), (u6, (u7, (u8, u9)))) := gS_enc (s := s_lawMore) rfl ((u0, (u1, (u2, (u3, (u4, u5))))), (u6, (u7, (u8, u9)))) rfl
theorem of_lawMore (h : ∀ (a0 : TPanel) (a1 : TLine) (r : T), sp_lawMore (a0, a1) = some r → BdSh s_lawMore (a0, a1) → F_lawMore a0 a1 (fun y => y = r)) : PureFn Tryz.prog 6 g_lawMore :=
  pureFn_S (E := E_lawMore) (Hs := H_lawMore) Eok_lawMore mixed' plain' (noHeap_of rfl) 8 ⟨_, _, Tryz.func6, rfl⟩ rfl fun x r h1 h2 => by
    obtain ⟨a0, a1⟩ := x
    rw [show Sh.encs s_lawMore (a0, a1) = [encV true yPanel a0, encV true yLine a1] from rfl, F_lawMore_eq]
    exact h a0 a1 r h1 h2

theorem mins_call (p : TPanel) (x : TLine) (K : List Int × Int → Prop) : callK [(false, (Sy.int IntKind.i64).li), (false, Sy.int IntKind.i64)] (g_mins [encV true yPanel p, encV true yLine x]) K = K (mins (p, x)) := by
  rw [g_mins_at]
  exact r_mins_call _ K
theorem mins_callP (p : TPanel) (x : TLine) (K : List Int × Int → Prop) : callK [(false, (Sy.int IntKind.i64).li), (false, Sy.int IntKind.i64)] (g_mins [T.agg [T.v (Value.string p.fst), T.v (Value.int IntKind.i64 (p.snd.fst + 1)), T.v (Value.int IntKind.i64 p.snd.snd.fst), T.v (Value.int IntKind.i64 (p.snd.snd.snd.fst + 1000)), T.v (Value.int IntKind.i64 p.snd.snd.snd.snd.fst), T.v (Value.int IntKind.i64 p.snd.snd.snd.snd.snd)], encV true yLine x]) K = K (mins (moreP p, x)) := mins_call (moreP p) x K
theorem mins_callQ (p : TPanel) (x : TLine) (K : List Int × Int → Prop) : callK [(false, (Sy.int IntKind.i64).li), (false, Sy.int IntKind.i64)] (g_mins [T.agg [T.v (Value.string p.fst), T.v (Value.int IntKind.i64 p.snd.fst), T.v (Value.int IntKind.i64 (p.snd.snd.fst + 1)), T.v (Value.int IntKind.i64 p.snd.snd.snd.fst), T.v (Value.int IntKind.i64 (p.snd.snd.snd.snd.fst + 1000)), T.v (Value.int IntKind.i64 p.snd.snd.snd.snd.snd)], encV true yLine x]) K = K (mins (moreQ p, x)) := mins_call (moreQ p) x K
theorem minAt_bd {p : TPanel} (hp : okP p = true) {a b c d : Int} (ra : 0 ≤ a ∧ a ≤ 1000) (rb : 0 ≤ b ∧ b ≤ 1000) (rc : 0 ≤ c ∧ c ≤ 1000) (rd : 0 ≤ d ∧ d ≤ 1000) : 0 ≤ minAt p a b c d ∧ minAt p a b c d ≤ 1000000000000 := by
  obtain ⟨⟨p1, p2⟩, ⟨p3, p4⟩, ⟨p5, p6⟩, p7, p8⟩ := okP_spec hp
  have ma := mul_bd p1 p2 ra.1 ra.2
  have mb := mul_bd p3 p4 rb.1 rb.2
  have mc := mul_bd p5 p6 rc.1 rc.2
  have md := mul_bd p7 p8 rd.1 rd.2
  unfold minAt
  omega
theorem okP_P {p : TPanel} (h : okP p = true) (h1 : p.2.1 < 256) (h2 : p.2.2.2.1 ≤ 8387608) : okP (moreP p) = true := by
  obtain ⟨⟨p1, p2⟩, ⟨p3, p4⟩, ⟨p5, p6⟩, p7, p8⟩ := okP_spec h
  obtain ⟨a, b, c, d, e, f⟩ := p
  show (decide (0 ≤ b + 1) && decide (b + 1 ≤ 256) && (decide (0 ≤ c) && decide (c ≤ 256)) && (decide (0 ≤ d + 1000) && decide (d + 1000 ≤ 8388608)) && (decide (0 ≤ e) && decide (e ≤ 8388608))) = true
  simp only [Bool.and_eq_true, decide_eq_true_eq] at *
  exact ⟨⟨⟨⟨by omega, by omega⟩, by omega, by omega⟩, by omega, by omega⟩, by omega, by omega⟩
theorem okP_Q {p : TPanel} (h : okP p = true) (h1 : p.2.2.1 < 256) (h2 : p.2.2.2.2.1 ≤ 8387608) : okP (moreQ p) = true := by
  obtain ⟨⟨p1, p2⟩, ⟨p3, p4⟩, ⟨p5, p6⟩, p7, p8⟩ := okP_spec h
  obtain ⟨a, b, c, d, e, f⟩ := p
  show (decide (0 ≤ b) && decide (b ≤ 256) && (decide (0 ≤ c + 1) && decide (c + 1 ≤ 256)) && (decide (0 ≤ d) && decide (d ≤ 8388608)) && (decide (0 ≤ e + 1000) && decide (e + 1000 ≤ 8388608))) = true
  simp only [Bool.and_eq_true, decide_eq_true_eq] at *
  exact ⟨⟨⟨⟨by omega, by omega⟩, by omega, by omega⟩, by omega, by omega⟩, by omega, by omega⟩
theorem fn_lawMore : PureFn Tryz.prog 6 g_lawMore := of_lawMore fun p x r h hb => by
  cases h
  unfold F_lawMore
  rw [g_few39_at]
  simp only [sp_few39]
  rw [r_few39_call]
  refine iteP_iff.2 ⟨fun _ => by rw [g_alive39_call], fun _ => ?_⟩
  refine ifD (fun _ => by rw [g_alive39_call]) fun b1 => ?_
  refine ifD (fun _ => by rw [g_alive39_call]) fun b2 => ?_
  refine ifD (fun _ => by rw [g_alive39_call]) fun b3 => ?_
  refine ifD (fun _ => by rw [g_alive39_call]) fun b4 => ?_
  refine ifD (fun _ => by rw [g_alive39_call]) fun b5 => ?_
  refine ifD (fun _ => by rw [g_alive39_call]) fun b6 => ?_
  refine ifD (fun _ => by rw [g_alive39_call]) fun b7 => ?_
  refine ifD (fun _ => by rw [g_alive39_call]) fun b8 => ?_
  have w1 : IntKind.i64.wrap (p.snd.fst + 1) = p.snd.fst + 1 := wrap_id _ (by omega) (by omega)
  have w2 : IntKind.i64.wrap (p.snd.snd.snd.fst + 1000) = p.snd.snd.snd.fst + 1000 := wrap_id _ (by omega) (by omega)
  have w3 : IntKind.i64.wrap (p.snd.snd.fst + 1) = p.snd.snd.fst + 1 := wrap_id _ (by omega) (by omega)
  have w4 : IntKind.i64.wrap (p.snd.snd.snd.snd.fst + 1000) = p.snd.snd.snd.snd.fst + 1000 := wrap_id _ (by omega) (by omega)
  rw [w1, w2, w3, w4, mins_call, mins_callP, mins_callQ]
  by_cases hc : chk x = 0
  · obtain ⟨h1, h2, h3, h8, hi⟩ := chk_ok hc
    have hp : okP p = true := by
      simp only [okP, Bool.and_eq_true, decide_eq_true_eq]
      omega
    have hP : okP (moreP p) = true := okP_P hp (by omega) (by omega)
    have hQ : okP (moreQ p) = true := okP_Q hp (by omega) (by omega)
    rw [mins_good hc hp, mins_good hc hP, mins_good hc hQ]
    dsimp only
    have l0 := minL_len (p := p) h1 h2 h3
    have lP := minL_len (p := moreP p) h1 h2 h3
    have lQ := minL_len (p := moreQ p) h1 h2 h3
    refine ifN (fun h => absurd (by first | rfl | trivial) h) fun _ => ?_
    refine ifN (fun h => absurd (by first | rfl | trivial) h) fun _ => ?_
    rw [g_chk_at]
    simp only [sp_chk]
    rw [r_chk_call, hc]
    refine ifN (fun h => absurd (by first | rfl | trivial) h) fun _ => ?_
    refine ifN (fun h => absurd (by first | rfl | trivial) h) fun _ => ?_
    refine ifN (fun h => absurd (by simp only [List.length_map]; omega) h) fun _ => ?_
    refine ifN (fun h => absurd (by simp only [List.length_map]; omega) h) fun _ => ?_
    refine ifN (fun h => absurd (by simp only [List.length_map]; omega) h) fun _ => ?_
    refine ifN (fun h => absurd (by simp only [List.length_map]; omega) h) fun _ => ?_
    refine ifN (fun h => absurd (by simp only [List.length_map]; omega) h) fun _ => ?_
    refine ifN (fun h => absurd (by simp only [List.length_map]; omega) h) fun _ => ?_
    simp only [inL, Bool.and_eq_true] at hi
    refine loopK_ix x.1.length (fun k s => s = ((k : Int), ())) rfl ?_
    rintro X k s hk rfl hX
    dsimp only
    refine ifD (fun hlt => ?_) fun _ => by rw [g_alive39_call]
    simp only [List.length_map] at hlt
    have hka : k < x.1.length := by omega
    have hkb : k < x.2.1.length := by omega
    have hkc : k < x.2.2.1.length := by omega
    have hkd : k < x.2.2.2.length := by omega
    have k0 : k < (minL p x.1 x.2.1 x.2.2.1 x.2.2.2).length := by omega
    have kP : k < (minL (moreP p) x.1 x.2.1 x.2.2.1 x.2.2.2).length := by omega
    have kQ : k < (minL (moreQ p) x.1 x.2.1 x.2.2.1 x.2.2.2).length := by omega
    have ra := inR_at hi.1.1.1 hka
    have rb := inR_at hi.1.1.2 hkb
    have rc := inR_at hi.1.2 hkc
    have rd := inR_at hi.2 hkd
    have bd := minAt_bd hp ra rb rc rd
    have e : IntKind.i64.wrap ((k : Int) + 1) = ((k + 1 : Nat) : Int) := wrap_id _ (by omega) (by omega)
    rw [rowsK_at (r := .int .i64) kP, rowsK_at (r := .int .i64) k0, rowsK_at (r := .int .i64) hka, rowsK_at (r := .int .i64) hkc]
    refine ifN (fun h => absurd ?_ h) fun _ => ?_
    · rw [minL_get hka hkb hkc hkd kP, minL_get hka hkb hkc hkd k0, minAt_P, wrap_id (minAt p _ _ _ _ + _) (by omega) (by omega), wrap_id _ (by omega) (by omega)]
    rw [rowsK_at (r := .int .i64) kQ, rowsK_at (r := .int .i64) k0, rowsK_at (r := .int .i64) hkb, rowsK_at (r := .int .i64) hkd]
    refine ifN (fun h => absurd ?_ h) fun _ => hX _ hka (by rw [e])
    rw [minL_get hka hkb hkc hkd kQ, minL_get hka hkb hkc hkd k0, minAt_Q, wrap_id (minAt p _ _ _ _ + _) (by omega) (by omega), wrap_id _ (by omega) (by omega)]
  · have hm : ∀ q : TPanel, mins (q, x) = ([], chk x) := fun q => by unfold mins; rw [if_neg hc]
    rw [hm, hm, hm]
    dsimp only
    refine ifN (fun h => absurd (by first | rfl | trivial) h) fun _ => ?_
    refine ifN (fun h => absurd (by first | rfl | trivial) h) fun _ => ?_
    rw [g_chk_at]
    simp only [sp_chk]
    rw [r_chk_call]
    refine ifN (fun h => absurd (by first | rfl | trivial) h) fun _ => ?_
    refine ifN (fun _ => ?_) fun h => absurd h hc
    exact ifD (fun _ => by rw [g_alive39_call]) fun h => absurd (by first | rfl | trivial) h
end Go.Pv
