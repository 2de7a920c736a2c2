/-
  The part with an identifier, as the program finds it; how thick a seam is.
-/
import Derived.Test.YtghdgefkfgikoaaGreatDoorPsb
set_option linter.unusedSimpArgs false
set_option linter.unusedVariables false
set_option maxRecDepth 100000
namespace Go.Pv
open Go Go.Proofs

theorem cl_clonePt : CloneP Tryz.prog 117 2 16 := ⟨fun R => by kernel_rfl, fun fl R => by kernel_rfl, fun fl a rows R => by kernel_rfl⟩
noncomputable def g_clonePt : List T → Option T := gS [(false, .li yPoint)] (spCloneP yPoint 16)
theorem g_clonePt_at {u0} : g_clonePt [T.sl false (List.map (Sy.enc yPoint) u0)] = spCloneP yPoint 16 u0 := gS_enc (s := [(false, .li yPoint)]) rfl u0 rfl
theorem fn_clonePt : PureFn Tryz.prog 117 g_clonePt := cloneP_of mixed' plain' ⟨_, _, Tryz.func117, rfl⟩ cl_clonePt

theorem cl_clonePtt : CloneF Tryz.prog 170 1 24 := ⟨fun R => by kernel_rfl, fun fl R => by kernel_rfl, fun fl a rows R => by kernel_rfl⟩
noncomputable def g_clonePtt : List T → Option (List (List T)) := gS [(false, .li (.li yPoint))] (spClone (.li yPoint) 24)
theorem g_clonePtt_at {u0} : g_clonePtt [T.sl false (List.map (Sy.enc (.li yPoint)) u0)] = spClone (.li yPoint) 24 u0 := gS_enc (s := [(false, .li (.li yPoint))]) rfl u0 rfl
theorem fn_clonePtt : FreshFn Tryz.prog 170 g_clonePtt := cloneF_of mixed' plain' ⟨_, _, Tryz.func170, rfl⟩ cl_clonePtt

/-- A list that may be copied. -/
def okLen (b : Nat) (n : Nat) : Bool := decide (n * b ≤ 140737488355328) && decide (n ≤ 140737488355328)
def okShape (s : TShape) : Bool := okLen 16 s.1.length && okLen 24 s.2.length && s.2.all fun h => okLen 16 h.length
def okPart (p : TPart) : Bool := okShape p.2.2.2.2.2.2.1
def okD (d : TDesign) : Bool := d.2.2.1.all okPart
theorem spClone_ok {r : Sy} {b : Nat} {l : List r.den} (h : okLen b l.length = true) : spClone r b l = some (List.map r.enc l) := by
  unfold spClone; unfold okLen at h; rw [h]
def sp_partD (x : TDesign × ByteArray) : Option T := match okD x.1 with
  | true => sp_part x
  | false => none
set_option maxRecDepth 100000
noncomputable def E_partD : Env := Env.of [(117, .pure g_clonePt), (170, .fresh g_clonePtt)]
def H_partD : FuncId → Hint := fun f => match f == 147 with | true => ⟨fun r => match r == 2 with | true => .inv [.val 13 false (.int .i64), .fix 1] | false => match r == 7 with | true => .alt [.val 37 false (.int .i64), .arr 4 1 (.li yPoint)] [.val 37 false (.int .i64)] | false => .none, fun _ _ => none, fun _ => none⟩ | false => noHint
theorem Eok_partD : EnvOk Tryz.prog E_partD := EnvOk.cons (x := .pure g_clonePt) fn_clonePt (EnvOk.cons (x := .fresh g_clonePtt) fn_clonePtt (EnvOk.nil _))
def F_partD (a0 : TDesign) (a1 : ByteArray) (R : T → Prop) : Prop :=
  sameK
  (Box.rows false
    [[D.p (T.v (Value.string { data := #[] })), D.p (T.v (Value.int IntKind.i64 0)),
        D.p (T.v (Value.int IntKind.i64 0)), D.p (T.v (Value.string { data := #[] })),
        D.p (T.v (Value.string { data := #[] })), D.p (T.v (Value.int IntKind.i64 0)),
        D.p (T.v (Value.slice none 0 0)), D.p (T.v (Value.slice none 0 0)),
        D.p (T.v (Value.string { data := #[] })), D.p (T.v (Value.int IntKind.i64 0)),
        D.p (T.v (Value.int IntKind.i64 0)), D.p (T.v (Value.int IntKind.i64 0)),
        D.p (T.v (Value.int IntKind.i64 0)), D.p (T.v (Value.int IntKind.i64 0)),
        D.p (T.v (Value.int IntKind.i64 0)), D.p (T.v (Value.int IntKind.i64 0)),
        D.p (T.v (Value.int IntKind.i64 0)), D.p (T.v (Value.int IntKind.i64 0))]])
  (Box.rows false
    [[D.p (T.v (Value.string { data := #[] })), D.p (T.v (Value.int IntKind.i64 0)),
        D.p (T.v (Value.int IntKind.i64 0)), D.p (T.v (Value.string { data := #[] })),
        D.p (T.v (Value.string { data := #[] })), D.p (T.v (Value.int IntKind.i64 0)),
        D.p (T.v (Value.slice none 0 0)), D.p (T.v (Value.slice none 0 0)),
        D.p (T.v (Value.string { data := #[] })), D.p (T.v (Value.int IntKind.i64 0)),
        D.p (T.v (Value.int IntKind.i64 0)), D.p (T.v (Value.int IntKind.i64 0)),
        D.p (T.v (Value.int IntKind.i64 0)), D.p (T.v (Value.int IntKind.i64 0)),
        D.p (T.v (Value.int IntKind.i64 0)), D.p (T.v (Value.int IntKind.i64 0)),
        D.p (T.v (Value.int IntKind.i64 0)), D.p (T.v (Value.int IntKind.i64 0))]])
  (loopK (Int × PUnit × PUnit)
    (fun (X0 : Int × PUnit × PUnit → Prop) (s1 : Int × PUnit × PUnit) =>
      iteP (decide (s1.fst < (↑(List.map yPart.enc a0.snd.snd.fst).length : Int)))
        (rowsK yPart (List.map yPart.enc a0.snd.snd.fst) s1.fst fun (y2 : TPart) =>
          iteP (decide (y2.fst = a1))
            (callK [(false, yPoint.li)]
              (g_clonePt [T.sl false (List.map yPoint.enc y2.snd.snd.snd.snd.snd.snd.fst.fst)])
              fun (y3 : List TPoint) =>
              freshK yPoint.li
                (g_clonePtt [T.sl false (List.map yPoint.li.enc y2.snd.snd.snd.snd.snd.snd.fst.snd)])
                fun (y4 : List (List TPoint)) =>
                iteP y4.isEmpty
                  (loopK (Int × PUnit)
                    (fun (X5 : Int × PUnit → Prop) (s6 : Int × PUnit) =>
                      iteP (decide (s6.fst < (↑0 : Int)))
                        (rowsK yPoint.li [] s6.fst fun (y7 : List TPoint) =>
                          callK [(false, yPoint.li)]
                            (g_clonePt [T.sl false (List.map yPoint.enc y7)])
                            fun (y8 : List TPoint) =>
                            rowsK yPoint.li [] s6.fst fun (y9 : List TPoint) => badK 104)
                        (R
                          (T.tup
                            [T.agg
                                [T.v (Value.string y2.fst), T.v (Value.int IntKind.i64 y2.snd.fst),
                                  T.v (Value.int IntKind.i64 y2.snd.snd.fst),
                                  T.v (Value.string y2.snd.snd.snd.fst),
                                  T.v (Value.string y2.snd.snd.snd.snd.fst),
                                  T.v (Value.int IntKind.i64 y2.snd.snd.snd.snd.snd.fst),
                                  T.sl false (List.map yPoint.enc y3), T.sl false [],
                                  T.v (Value.string y2.snd.snd.snd.snd.snd.snd.snd.fst),
                                  T.v (Value.int IntKind.i64 y2.snd.snd.snd.snd.snd.snd.snd.snd.fst),
                                  T.v (Value.int IntKind.i64 y2.snd.snd.snd.snd.snd.snd.snd.snd.snd.fst),
                                  T.v
                                    (Value.int IntKind.i64 y2.snd.snd.snd.snd.snd.snd.snd.snd.snd.snd.fst.fst),
                                  T.v
                                    (Value.int IntKind.i64
                                      y2.snd.snd.snd.snd.snd.snd.snd.snd.snd.snd.fst.snd.fst),
                                  T.v
                                    (Value.int IntKind.i64
                                      y2.snd.snd.snd.snd.snd.snd.snd.snd.snd.snd.fst.snd.snd),
                                  T.v
                                    (Value.int IntKind.i64
                                      y2.snd.snd.snd.snd.snd.snd.snd.snd.snd.snd.snd.fst.fst),
                                  T.v
                                    (Value.int IntKind.i64
                                      y2.snd.snd.snd.snd.snd.snd.snd.snd.snd.snd.snd.fst.snd.fst),
                                  T.v
                                    (Value.int IntKind.i64
                                      y2.snd.snd.snd.snd.snd.snd.snd.snd.snd.snd.snd.fst.snd.snd),
                                  T.v
                                    (Value.int IntKind.i64 y2.snd.snd.snd.snd.snd.snd.snd.snd.snd.snd.snd.snd)],
                              T.v (Value.bool true)])))
                    (0, ()))
                  (decK yPoint.li (List.map yPoint.li.enc y4) fun (y10 : List (List TPoint)) =>
                    loopK (Int × List (List TPoint) × PUnit)
                      (fun (X11 : Int × List (List TPoint) × PUnit → Prop)
                          (s12 : Int × List (List TPoint) × PUnit) =>
                        iteP (decide (s12.fst < (↑(List.map yPoint.li.enc y4).length : Int)))
                          (rowsK yPoint.li (List.map yPoint.li.enc s12.snd.fst) s12.fst
                            fun (y13 : List TPoint) =>
                            partK yPoint.li (List.map yPoint.li.enc s12.snd.fst) (Int.toNat s12.fst) 0
                              fun (y14 : List TPoint) =>
                              callK [(false, yPoint.li)]
                                (g_clonePt [T.sl false (List.map yPoint.enc y14)])
                                fun (y15 : List TPoint) =>
                                rowsK yPoint.li (List.map yPoint.li.enc s12.snd.fst) s12.fst
                                  fun (y16 : List TPoint) =>
                                  rowK (List.map yPoint.li.enc s12.snd.fst) (Int.toNat s12.fst)
                                    fun (y17 : List T) =>
                                    reqK (decide (1 ≤ y17.length))
                                      (decK yPoint.li
                                        ((List.map yPoint.li.enc s12.snd.fst).set (Int.toNat s12.fst)
                                          (splice y17 0 [T.sl false (List.map yPoint.enc y15)]))
                                        fun (y18 : List (List TPoint)) =>
                                        X11 (IntKind.i64.wrap (s12.fst + 1), y18, ())))
                          (R
                            (T.tup
                              [T.agg
                                  [T.v (Value.string y2.fst),
                                    T.v (Value.int IntKind.i64 y2.snd.fst),
                                    T.v (Value.int IntKind.i64 y2.snd.snd.fst),
                                    T.v (Value.string y2.snd.snd.snd.fst),
                                    T.v (Value.string y2.snd.snd.snd.snd.fst),
                                    T.v (Value.int IntKind.i64 y2.snd.snd.snd.snd.snd.fst),
                                    T.sl false (List.map yPoint.enc y3),
                                    T.sl false (List.map yPoint.li.enc s12.snd.fst),
                                    T.v (Value.string y2.snd.snd.snd.snd.snd.snd.snd.fst),
                                    T.v (Value.int IntKind.i64 y2.snd.snd.snd.snd.snd.snd.snd.snd.fst),
                                    T.v (Value.int IntKind.i64 y2.snd.snd.snd.snd.snd.snd.snd.snd.snd.fst),
                                    T.v
                                      (Value.int IntKind.i64 y2.snd.snd.snd.snd.snd.snd.snd.snd.snd.snd.fst.fst),
                                    T.v
                                      (Value.int IntKind.i64
                                        y2.snd.snd.snd.snd.snd.snd.snd.snd.snd.snd.fst.snd.fst),
                                    T.v
                                      (Value.int IntKind.i64
                                        y2.snd.snd.snd.snd.snd.snd.snd.snd.snd.snd.fst.snd.snd),
                                    T.v
                                      (Value.int IntKind.i64
                                        y2.snd.snd.snd.snd.snd.snd.snd.snd.snd.snd.snd.fst.fst),
                                    T.v
                                      (Value.int IntKind.i64
                                        y2.snd.snd.snd.snd.snd.snd.snd.snd.snd.snd.snd.fst.snd.fst),
                                    T.v
                                      (Value.int IntKind.i64
                                        y2.snd.snd.snd.snd.snd.snd.snd.snd.snd.snd.snd.fst.snd.snd),
                                    T.v
                                      (Value.int IntKind.i64 y2.snd.snd.snd.snd.snd.snd.snd.snd.snd.snd.snd.snd)],
                                T.v (Value.bool true)])))
                      (0, y10, ())))
            (sameK
              (Box.rows false
                [[D.p (T.v (Value.string { data := #[] })),
                    D.p (T.v (Value.int IntKind.i64 0)),
                    D.p (T.v (Value.int IntKind.i64 0)),
                    D.p (T.v (Value.string { data := #[] })),
                    D.p (T.v (Value.string { data := #[] })),
                    D.p (T.v (Value.int IntKind.i64 0)),
                    D.p (T.v (Value.slice none 0 0)), D.p (T.v (Value.slice none 0 0)),
                    D.p (T.v (Value.string { data := #[] })),
                    D.p (T.v (Value.int IntKind.i64 0)),
                    D.p (T.v (Value.int IntKind.i64 0)),
                    D.p (T.v (Value.int IntKind.i64 0)),
                    D.p (T.v (Value.int IntKind.i64 0)),
                    D.p (T.v (Value.int IntKind.i64 0)),
                    D.p (T.v (Value.int IntKind.i64 0)),
                    D.p (T.v (Value.int IntKind.i64 0)),
                    D.p (T.v (Value.int IntKind.i64 0)),
                    D.p (T.v (Value.int IntKind.i64 0))]])
              (Box.rows false
                [[D.p (T.v (Value.string { data := #[] })),
                    D.p (T.v (Value.int IntKind.i64 0)),
                    D.p (T.v (Value.int IntKind.i64 0)),
                    D.p (T.v (Value.string { data := #[] })),
                    D.p (T.v (Value.string { data := #[] })),
                    D.p (T.v (Value.int IntKind.i64 0)),
                    D.p (T.v (Value.slice none 0 0)), D.p (T.v (Value.slice none 0 0)),
                    D.p (T.v (Value.string { data := #[] })),
                    D.p (T.v (Value.int IntKind.i64 0)),
                    D.p (T.v (Value.int IntKind.i64 0)),
                    D.p (T.v (Value.int IntKind.i64 0)),
                    D.p (T.v (Value.int IntKind.i64 0)),
                    D.p (T.v (Value.int IntKind.i64 0)),
                    D.p (T.v (Value.int IntKind.i64 0)),
                    D.p (T.v (Value.int IntKind.i64 0)),
                    D.p (T.v (Value.int IntKind.i64 0)),
                    D.p (T.v (Value.int IntKind.i64 0))]])
              (X0 (IntKind.i64.wrap (s1.fst + 1), (), ()))))
        (R
          (T.tup
            [T.agg
                [T.v (Value.string { data := #[] }), T.v (Value.int IntKind.i64 0),
                  T.v (Value.int IntKind.i64 0), T.v (Value.string { data := #[] }),
                  T.v (Value.string { data := #[] }), T.v (Value.int IntKind.i64 0),
                  T.sl false [], T.sl false [], T.v (Value.string { data := #[] }),
                  T.v (Value.int IntKind.i64 0), T.v (Value.int IntKind.i64 0),
                  T.v (Value.int IntKind.i64 0), T.v (Value.int IntKind.i64 0),
                  T.v (Value.int IntKind.i64 0), T.v (Value.int IntKind.i64 0),
                  T.v (Value.int IntKind.i64 0), T.v (Value.int IntKind.i64 0),
                  T.v (Value.int IntKind.i64 0)],
              T.v (Value.bool false)])))
    (0, (), ()))
theorem F_partD_eq (a0 : TDesign) (a1 : ByteArray) (R : T → Prop) : sxTop stdC2 Tryz.prog E_partD H_partD 8 147 [encV true yDesign a0, encV false Sy.str a1] R = F_partD a0 a1 R := by kernel_rfl
abbrev s_partD : Sh := [(true, yDesign), (false, Sy.str)]
abbrev r_partD : Sh := [(true, yPart), (false, Sy.bool)]
theorem r_partD_call (y : Sh.den r_partD) (K : Sh.den r_partD → Prop) : callK r_partD (some (Sh.enc r_partD y)) K = K y := callK_enc rfl y K

noncomputable def g_partD : List T → Option (T) := gS s_partD sp_partD
theorem g_partD_at {a0 : TDesign} {a1 : ByteArray} : g_partD [encV true yDesign a0, T.v (Value.string a1)] = sp_partD (a0, a1) := gS_enc (s := s_partD) rfl (a0, a1) rfl
theorem g_partD_op {u0 u1 u2 u3 u4 u5 u6} : g_partD [T.agg
    [T.v (Value.string u0), T.sl false (List.map yNode.enc u1),
      T.sl false (List.map yPart.enc u2),
      T.sl false (List.map ySeam.enc u3),
      T.sl false (List.map yPackage.enc u4),
      T.sl false (List.map yNeed.enc u5)],
  T.v (Value.string u6)] = sp_partD ((u0, (u1, (u2, (u3, (u4, u5))))), u6) := gS_enc (s := s_partD) rfl ((u0, (u1, (u2, (u3, (u4, u5))))), u6) rfl
theorem of_partD (h : ∀ (a0 : TDesign) (a1 : ByteArray) (r : T), sp_partD (a0, a1) = some r → BdSh s_partD (a0, a1) → F_partD a0 a1 (fun y => y = r)) : PureFn Tryz.prog 147 g_partD :=
  pureFn_S (E := E_partD) (Hs := H_partD) Eok_partD mixed' plain' (noHeap_of rfl) 8 ⟨_, _, Tryz.func147, rfl⟩ rfl fun x r h1 h2 => by
    obtain ⟨a0, a1⟩ := x
    rw [show Sh.encs s_partD (a0, a1) = [encV true yDesign a0, encV false Sy.str a1] from rfl, F_partD_eq]
    exact h a0 a1 r h1 h2

theorem fn_partD : PureFn Tryz.prog 147 g_partD := of_partD fun d id r h hb => by
  have hl : d.2.2.1.length ≤ 2 ^ 47 := hb.1.2.2.1.1
  unfold sp_partD at h
  split at h
  · rename_i hok
    unfold F_partD
    rw [sameK_self]
    refine loopK_ix d.2.2.1.length (fun k s => s = ((k : Int), (), ()) ∧ (d.2.2.1.drop k).find? (fun s => decide (s.1 = id)) = partOf d id) ⟨rfl, rfl⟩ ?_
    rintro X k s hk ⟨rfl, hf⟩ hX
    simp only [List.length_map, len_lt, sameK_self]
    by_cases hlt : k < d.2.2.1.length
    · rw [find_drop hlt] at hf
      have hp : okPart d.2.2.1[k] = true := List.all_eq_true.1 hok _ (List.getElem_mem hlt)
      simp only [hlt, decide_true, iteP, rowsK_at (r := yPart) hlt]
      generalize d.2.2.1[k] = p at *
      unfold okPart okShape at hp
      simp only [Bool.and_eq_true] at hp
      obtain ⟨⟨hp1, hp2⟩, hp3⟩ := hp
      cases hc : decide (p.1 = id) with
      | true =>
        simp only [hc, if_true] at hf
        simp only [sp_part, ← hf] at h
        cases h
        simp only []
        refine callK_some (s := [(false, yPoint.li)]) (y := p.2.2.2.2.2.2.1.1) (by rw [g_clonePt_at, spCloneP, spClone_ok hp1]; rfl) ?_
        refine freshK_at (r := .li yPoint) (l := p.2.2.2.2.2.2.1.2) (by rw [g_clonePtt_at, spClone_ok hp2]) _ ?_
        obtain ⟨p1, p2, p3, p4, p5, p6, ⟨o, hs⟩, p7⟩ := p
        have hb47 : hs.length ≤ 140737488355328 := by
          simp only [okLen, Bool.and_eq_true, decide_eq_true_eq] at hp2; exact hp2.2
        cases hs with
        | nil =>
          simp only [List.isEmpty_nil]
          refine loopK_ix 0 (fun k s => s = ((k : Int), ())) rfl ?_
          rintro X k s hk rfl hX
          have : k = 0 := by omega
          subst this
          rfl
        | cons h0 hs =>
          generalize hhs : h0 :: hs = hh at *
          have he : hh.isEmpty = false := by rw [← hhs]; rfl
          simp only [he]
          rw [decK_map (r := .li yPoint) rfl]
          refine loopK_ix hh.length (fun k s => s = ((k : Int), hh, ())) rfl ?_
          rintro X k s hk rfl hX
          simp only [List.length_map, len_lt]
          by_cases hlt : k < hh.length
          · have hok : okLen 16 hh[k].length = true := List.all_eq_true.1 hp3 _ (List.getElem_mem hlt)
            simp only [hlt, decide_true, Int.toNat_natCast, rowsK_at (r := .li yPoint) hlt, partK_at (r := .li yPoint) hlt, rowK_at (r := .li yPoint) hlt]
            refine callK_some (s := [(false, yPoint.li)]) (y := hh[k]) (by rw [g_clonePt_at, spCloneP, spClone_ok hok]; rfl) ?_
            refine ⟨rfl, ?_⟩
            have e : splice (Sy.enc (.li yPoint) hh[k]) 0 [T.sl false (List.map yPoint.enc hh[k])] = Sy.enc (.li yPoint) hh[k] := rfl
            rw [e, set_self (r := .li yPoint) hlt, decK_map (r := .li yPoint) rfl]
            refine hX _ hlt ?_
            simp only [Prod.mk.injEq, and_true]
            exact wrap_id _ (by omega) (by omega)
          · simp only [hlt, decide_false]
            rfl
      | false =>
        simp only [hc] at hf
        refine hX _ hlt ⟨?_, hf⟩
        simp only [Prod.mk.injEq, and_true]
        exact wrap_id _ (by omega) (by omega)
    · have : k = d.2.2.1.length := by omega
      subst this
      simp only [List.drop_length, List.find?_nil] at hf
      simp only [sp_part, ← hf] at h
      simp only [hlt, decide_false, iteP]
      cases h; rfl
  · cases h
end Go.Pv
