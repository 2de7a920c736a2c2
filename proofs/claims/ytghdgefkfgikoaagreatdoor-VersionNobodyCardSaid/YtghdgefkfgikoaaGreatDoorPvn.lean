/-
  VersionNobody: the law's function.
-/
import Derived.Test.YtghdgefkfgikoaaGreatDoorPsp
import Derived.Test.YtghdgefkfgikoaaGreatDoorPa21
import Derived.Test.YtghdgefkfgikoaaGreatDoorPkj
set_option linter.unusedSimpArgs false
set_option linter.unusedVariables false
set_option maxRecDepth 100000
namespace Go.Pv
open Go Go.Proofs
set_option maxRecDepth 100000
noncomputable def E_few20 : Env := Env.of []
def H_few20 : FuncId → Hint := fun f => match f == 17 with | true => ⟨fun r => match r == 4 with | true => .inv [.val 5 false (.int .i64)] | false => match r == 10 with | true => .inv [.val 7 false (.int .i64)] | false => .none, fun _ _ => none, fun _ => none⟩ | false => noHint
theorem Eok_few20 : EnvOk Tryz.prog E_few20 := EnvOk.nil _
def F_few20 (a0 : TOrder) (a1 : Int) (R : T → Prop) : Prop :=
  iteP (decide (100 < (↑(ByteArray.size a0.fst) : Int))) (R (T.v (Value.bool false)))
  (iteP (decide (a1 < (↑(List.map yEdit.enc a0.snd).length : Int))) (R (T.v (Value.bool false)))
    (loopK (Int × PUnit)
      (fun (X0 : Int × PUnit → Prop) (s1 : Int × PUnit) =>
        iteP (decide (s1.fst < (↑(List.map yEdit.enc a0.snd).length : Int)))
          (rowsK yEdit (List.map yEdit.enc a0.snd) s1.fst fun (y2 : TEdit) =>
            iteP
              (decide (40 < (↑(List.map Sy.str.enc y2.snd.snd.snd.snd.snd.snd.fst.snd.snd.fst).length : Int)))
              (R (T.v (Value.bool false)))
              (iteP
                (decide
                  (40 < (↑(List.map Sy.str.enc y2.snd.snd.snd.snd.snd.snd.fst.snd.snd.snd.snd).length : Int)))
                (R (T.v (Value.bool false)))
                (iteP
                  (decide
                    (100 <
                      (↑(List.map yPoint.enc y2.snd.snd.snd.snd.fst.snd.snd.snd.snd.snd.snd.fst.fst).length :
                        Int)))
                  (R (T.v (Value.bool false)))
                  (iteP
                    (decide
                      (20 <
                        (↑(List.map yPoint.li.enc y2.snd.snd.snd.snd.fst.snd.snd.snd.snd.snd.snd.fst.snd).length :
                          Int)))
                    (R (T.v (Value.bool false)))
                    (loopK (Int × PUnit)
                      (fun (X3 : Int × PUnit → Prop) (s4 : Int × PUnit) =>
                        iteP
                          (decide
                            (s4.fst <
                              (↑(List.map yPoint.li.enc
                                      y2.snd.snd.snd.snd.fst.snd.snd.snd.snd.snd.snd.fst.snd).length :
                                Int)))
                          (rowsK yPoint.li
                            (List.map yPoint.li.enc y2.snd.snd.snd.snd.fst.snd.snd.snd.snd.snd.snd.fst.snd) s4.fst
                            fun (y5 : List TPoint) =>
                            iteP (decide (100 < (↑(List.map yPoint.enc y5).length : Int)))
                              (R (T.v (Value.bool false))) (X3 (IntKind.i64.wrap (s4.fst + 1), ())))
                          (X0 (IntKind.i64.wrap (s1.fst + 1), ())))
                      (0, ()))))))
          (R (T.v (Value.bool true))))
      (0, ())))
theorem F_few20_eq (a0 : TOrder) (a1 : Int) (R : T → Prop) : sxTop stdC2 Tryz.prog E_few20 H_few20 8 17 [encV true yOrder a0, encV false (Sy.int IntKind.i64) a1] R = F_few20 a0 a1 R := by kernel_rfl
abbrev s_few20 : Sh := [(true, yOrder), (false, (Sy.int IntKind.i64))]
abbrev r_few20 : Sh := [(false, Sy.bool)]
theorem r_few20_call (y : Sh.den r_few20) (K : Sh.den r_few20 → Prop) : callK r_few20 (some (Sh.enc r_few20 y)) K = K y := callK_enc rfl y K

def holeF (h : List TPoint) : Int := if h.length ≤ 100 then 0 else 1
def editF (x : TEdit) : Int := if 40 < x.2.2.2.2.2.2.1.2.2.1.length then 1 else if 40 < x.2.2.2.2.2.2.1.2.2.2.2.length then 1 else if 100 < x.2.2.2.2.1.2.2.2.2.2.2.1.1.length then 1 else if 20 < x.2.2.2.2.1.2.2.2.2.2.2.1.2.length then 1 else firstE holeF x.2.2.2.2.1.2.2.2.2.2.2.1.2
def few20 (o : TOrder) (n : Int) : Bool := decide (o.1.size ≤ 100) && (decide ((o.2.length : Int) ≤ n) && decide (firstE editF o.2 = 0))
def sp_few20 (x : TOrder × Int) : Option T := some (T.v (Value.bool (few20 x.1 x.2)))
noncomputable def g_few20 : List T → Option (T) := gS s_few20 sp_few20
theorem g_few20_at {a0 : TOrder} {a1 : Int} : g_few20 [encV true yOrder a0, T.v (Value.int IntKind.i64 a1)] = sp_few20 (a0, a1) := gS_enc (s := s_few20) rfl (a0, a1) rfl
theorem g_few20_op {u0 u1 u2} : g_few20 [T.agg [T.v (Value.string u0), T.sl false (List.map yEdit.enc u1)],
  T.v (Value.int IntKind.i64 u2)] = sp_few20 ((u0, u1), u2) := gS_enc (s := s_few20) rfl ((u0, u1), u2) rfl
theorem of_few20 (h : ∀ (a0 : TOrder) (a1 : Int) (r : T), sp_few20 (a0, a1) = some r → BdSh s_few20 (a0, a1) → F_few20 a0 a1 (fun y => y = r)) : PureFn Tryz.prog 17 g_few20 :=
  pureFn_S (E := E_few20) (Hs := H_few20) Eok_few20 mixed' plain' (noHeap_of rfl) 8 ⟨_, _, Tryz.func17, rfl⟩ rfl fun x r h1 h2 => by
    obtain ⟨a0, a1⟩ := x
    rw [show Sh.encs s_few20 (a0, a1) = [encV true yOrder a0, encV false (Sy.int IntKind.i64) a1] from rfl, F_few20_eq]
    exact h a0 a1 r h1 h2

theorem fn_few20 : PureFn Tryz.prog 17 g_few20 := of_few20 fun o n r h hb => by
  cases h
  have hl : o.2.length ≤ 2 ^ 47 := hb.1.2.1
  have no : few20 o n = false → T.v (Value.bool false) = T.v (Value.bool (few20 o n)) := fun h => by rw [h]
  unfold F_few20
  refine ifP (fun h => no (by unfold few20; rw [decide_eq_false (by omega)]; rfl)) fun h1 => ?_
  refine ifP (fun h => no (by rw [List.length_map] at h; unfold few20; rw [decide_eq_false (show ¬ (o.2.length : Int) ≤ n by omega)]; simp)) fun h2 => ?_
  rw [List.length_map] at h2
  have w : few20 o n = decide (firstE editF o.2 = 0) := by unfold few20; rw [decide_eq_true (by omega), decide_eq_true (by omega)]; rfl
  refine first_loop (r := yEdit) editF hl (fun X s y hy hok hbad => ?_) fun h => by rw [w, decide_eq_true h]
  have bad : editF y ≠ 0 → T.v (Value.bool false) = T.v (Value.bool (few20 o n)) := fun h => no (by rw [w, decide_eq_false (by rw [hbad h]; exact h)])
  have hy2 : y.2.2.2.2.1.2.2.2.2.2.2.1.2.length ≤ 2 ^ 47 := (hb.1.2.2 y hy).2.2.2.2.1.2.2.2.2.2.2.1.2.1
  clear hb
  refine ifP (fun h => bad (by rw [List.length_map] at h; unfold editF; rw [if_pos (by omega)]; decide)) fun h3 => ?_
  refine ifP (fun h => bad (by rw [List.length_map] at h h3; unfold editF; rw [if_neg (by omega), if_pos (by omega)]; decide)) fun h4 => ?_
  refine ifP (fun h => bad (by rw [List.length_map] at h h3 h4; unfold editF; rw [if_neg (by omega), if_neg (by omega), if_pos (by omega)]; decide)) fun h5 => ?_
  refine ifP (fun h => bad (by rw [List.length_map] at h h3 h4 h5; unfold editF; rw [if_neg (by omega), if_neg (by omega), if_neg (by omega), if_pos (by omega)]; decide)) fun h6 => ?_
  rw [List.length_map] at h3 h4 h5 h6
  have e : editF y = firstE holeF y.2.2.2.2.1.2.2.2.2.2.2.1.2 := by unfold editF; rw [if_neg (by omega), if_neg (by omega), if_neg (by omega), if_neg (by omega)]
  refine first_loop (r := yPoint.li) holeF hy2 (fun Y t q hq hok2 hbad2 => ?_) fun h => hok (e.trans h)
  refine ifP (fun h => bad ?_) fun h => hok2 ?_
  · rw [List.length_map] at h
    have : holeF q = 1 := by unfold holeF; rw [if_neg (by show ¬ List.length q ≤ 100; omega)]
    rw [e, hbad2 (by rw [this]; decide), this]; decide
  · rw [List.length_map] at h
    unfold holeF; rw [if_pos (by show List.length q ≤ 100; omega)]
noncomputable def gSame0 : List T → Option T := runP Tryz.prog 400 (fun _ => false) (Env.of []) 40 19
theorem fn_gSame0 : PureFn Tryz.prog 19 gSame0 := pureFn_run mixed' plain' 400 (fun _ => false) (EnvOk.nil _) 40 (runE_read (k := 39) (fn := _) (c := _) (by kernel_rfl) Tryz.func19 rfl (by kernel_rfl))
noncomputable def g_same0 : List T → Option T := gSame0
theorem fn_same0 : PureFn Tryz.prog 19 g_same0 := fn_gSame0
set_option maxRecDepth 100000
noncomputable def E_lawNobody : Env := Env.of [(17, .pure g_few20), (7, .pure g_alive21), (19, .pure g_same0)]
def H_lawNobody : FuncId → Hint := fun _ => noHint
theorem Eok_lawNobody : EnvOk Tryz.prog E_lawNobody := EnvOk.cons (x := .pure g_few20) fn_few20 (EnvOk.cons (x := .pure g_alive21) fn_alive21 (EnvOk.cons (x := .pure g_same0) fn_same0 (EnvOk.nil _)))
def F_lawNobody (a0 : TOrder) (a1 : Int) (R : T → Prop) : Prop :=
  callK [(false, Sy.bool)]
  (g_few20 [encV true yOrder a0, T.v (Value.int IntKind.i64 8)]) fun (y0 : Bool) =>
  iteP (!y0)
    (callK [(false, Sy.bool)] (g_alive21 []) fun (y1 : Bool) => R (T.v (Value.bool y1)))
    (callK [(false, Sy.bool)]
      (g_same0
        [T.agg
            [T.v (Value.string { data := #[] }), T.v (Value.slice none 0 0),
              T.v (Value.slice none 0 0), T.v (Value.slice none 0 0),
              T.v (Value.slice none 0 0), T.v (Value.slice none 0 0)],
          T.agg
            [T.v (Value.string { data := #[] }), T.v (Value.slice none 0 0),
              T.v (Value.slice none 0 0), T.v (Value.slice none 0 0),
              T.v (Value.slice none 0 0), T.v (Value.slice none 0 0)]])
      fun (y2 : Bool) =>
      iteP y2
        (callK [(false, Sy.bool)] (g_alive21 []) fun (y3 : Bool) => R (T.v (Value.bool y3)))
        (R (T.v (Value.bool false))))
theorem F_lawNobody_eq (a0 : TOrder) (a1 : Int) (R : T → Prop) : sxTop stdC2 Tryz.prog E_lawNobody H_lawNobody 8 5 [encV true yOrder a0, encV false (Sy.int IntKind.i64) a1] R = F_lawNobody a0 a1 R := by kernel_rfl
abbrev s_lawNobody : Sh := [(true, yOrder), (false, (Sy.int IntKind.i64))]
abbrev r_lawNobody : Sh := [(false, Sy.bool)]
theorem r_lawNobody_call (y : Sh.den r_lawNobody) (K : Sh.den r_lawNobody → Prop) : callK r_lawNobody (some (Sh.enc r_lawNobody y)) K = K y := callK_enc rfl y K

def sp_lawNobody (x : TOrder × Int) : Option T := some (T.v (Value.bool true))
noncomputable def g_lawNobody : List T → Option (T) := gS s_lawNobody sp_lawNobody
theorem g_lawNobody_at {a0 : TOrder} {a1 : Int} : g_lawNobody [encV true yOrder a0, T.v (Value.int IntKind.i64 a1)] = sp_lawNobody (a0, a1) := gS_enc (s := s_lawNobody) rfl (a0, a1) rfl
theorem g_lawNobody_op {u0 u1 u2} : g_lawNobody [T.agg [T.v (Value.string u0), T.sl false (List.map yEdit.enc u1)],
  T.v (Value.int IntKind.i64 u2)] = sp_lawNobody ((u0, u1), u2) := gS_enc (s := s_lawNobody) rfl ((u0, u1), u2) rfl
theorem of_lawNobody (h : ∀ (a0 : TOrder) (a1 : Int) (r : T), sp_lawNobody (a0, a1) = some r → BdSh s_lawNobody (a0, a1) → F_lawNobody a0 a1 (fun y => y = r)) : PureFn Tryz.prog 5 g_lawNobody :=
  pureFn_S (E := E_lawNobody) (Hs := H_lawNobody) Eok_lawNobody mixed' plain' (noHeap_of rfl) 8 ⟨_, _, Tryz.func5, rfl⟩ rfl fun x r h1 h2 => by
    obtain ⟨a0, a1⟩ := x
    rw [show Sh.encs s_lawNobody (a0, a1) = [encV true yOrder a0, encV false (Sy.int IntKind.i64) a1] from rfl, F_lawNobody_eq]
    exact h a0 a1 r h1 h2

theorem alive21_call {K : Bool → Prop} (h : K true) : callK [(false, Sy.bool)] (g_alive21 []) K := callK_some (s := [(false, .bool)]) (y := true) rfl h
theorem same0_zero : g_same0 [T.agg [T.v (Value.string { data := #[] }), T.v (Value.slice none 0 0), T.v (Value.slice none 0 0), T.v (Value.slice none 0 0), T.v (Value.slice none 0 0), T.v (Value.slice none 0 0)],
  T.agg [T.v (Value.string { data := #[] }), T.v (Value.slice none 0 0), T.v (Value.slice none 0 0), T.v (Value.slice none 0 0), T.v (Value.slice none 0 0), T.v (Value.slice none 0 0)]] = some (T.v (Value.bool true)) := by kernel_rfl
theorem fn_lawNobody : PureFn Tryz.prog 5 g_lawNobody := of_lawNobody fun o v r h hb => by
  cases h
  unfold F_lawNobody
  refine callK_some (s := [(false, .bool)]) (y := few20 o 8) (g_few20_at ..) ?_
  refine ifNB (fun _ => alive21_call rfl) fun _ => ?_
  refine callK_some (s := [(false, .bool)]) (y := true) same0_zero ?_
  rw [iteP_t]
  exact alive21_call rfl
end Go.Pv
