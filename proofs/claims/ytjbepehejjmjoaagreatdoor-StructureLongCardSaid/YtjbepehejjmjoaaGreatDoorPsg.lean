/-
  The way from the block down to a part.
-/
import Derived.Test.YtjbepehejjmjoaaGreatDoorPsp
set_option linter.unusedSimpArgs false
set_option linter.unusedVariables false
set_option maxRecDepth 100000
namespace Go.Pv
open Go Go.Proofs

/-- The nodes from a node up to its block. -/
def upF (d : TDesign) : Nat → ByteArray → List ByteArray → List ByteArray × Bool
  | 0, _, _ => ([], false)
  | n + 1, id, l => match nodeOf d id with
    | none => ([], false)
    | some x => if x.2.1 = 1 then (l ++ [id], true) else upF d n x.2.2 (l ++ [id])
def up (d : TDesign) (id : ByteArray) : List ByteArray × Bool := upF d 65 id []
def path0 (d : TDesign) (id : ByteArray) : List ByteArray := match nodeOf d id with
  | some _ => (up d id).1.reverse
  | none => match partOf d id with
    | some p => (up d (pNode p)).1.reverse
    | none => []
def pathOf (d : TDesign) (id : ByteArray) : List ByteArray := match partOf d id with
  | some p => path0 d (pNode p)
  | none => []
abbrev r_ls : Sh := [(false, .li .str)]
abbrev r_lsb : Sh := [(false, .li .str), (false, .bool)]
def sp_up (x : TDesign × ByteArray) : Option T := some (Sh.enc r_lsb (up x.1 x.2))
def sp_path0 (x : TDesign × ByteArray) : Option T := onlyD x.1 (Sh.enc r_ls (path0 x.1 x.2))
abbrev sp_path017 := sp_path0
def sp_path (x : TDesign × ByteArray) : Option T := onlyD x.1 (Sh.enc r_ls (pathOf x.1 x.2))
abbrev sp_path18 := sp_path
theorem upF_len {d : TDesign} : ∀ {n : Nat} {id : ByteArray} {l : List ByteArray}, (upF d n id l).1.length ≤ l.length + n
  | 0, _, _ => by simp [upF]
  | n + 1, id, l => by
    unfold upF
    cases nodeOf d id with
    | none => simp
    | some x =>
      by_cases hx : x.2.1 = 1
      · simp only [hx, if_true]
        simp
      · simp only [hx, if_false]
        have := upF_len (d := d) (n := n) (id := x.2.2) (l := l ++ [id])
        simp at this; omega
theorem up_len (d : TDesign) (id : ByteArray) : (up d id).1.length ≤ 65 := by have := upF_len (d := d) (n := 65) (id := id) (l := []); simpa [up] using this
/-- What an append of one string asks. -/
theorem app_ok {l : List ByteArray} (h : l.length ≤ 8000000000000) (K : Prop) : reqK (decide (((List.map Sy.str.enc l).length + 1) * 16 ≤ 140737488355328) && decide ((List.map Sy.str.enc l).length + 1 ≤ 140737488355328)) K = K := by
  have e : (decide (((List.map Sy.str.enc l).length + 1) * 16 ≤ 140737488355328) && decide ((List.map Sy.str.enc l).length + 1 ≤ 140737488355328)) = true := by
    simp only [List.length_map, Bool.and_eq_true, decide_eq_true_eq]
    omega
  rw [e]; simp [reqK]
theorem dec_snoc {l : List ByteArray} {x : ByteArray} (K : List ByteArray → Prop) : decK Sy.str (List.map Sy.str.enc l ++ [[T.v (Value.string x)]]) K = K (l ++ [x]) := decK_snoc (r := .str) rfl l _ x rfl K
theorem enc_snoc {l : List ByteArray} {x : ByteArray} : List.map Sy.str.enc l ++ [[T.v (Value.string x)]] = List.map Sy.str.enc (l ++ [x]) := by simp [Sy.enc]
set_option maxRecDepth 100000
noncomputable def E_up : Env := Env.of [(42, .pure g_node17)]
def H_up : FuncId → Hint := fun f => match f == 81 with | true => ⟨fun r => match r == 3 with | true => .inv [.val 1 false .str, .own 6 1 .str, .val 7 false (.int .i64)] | false => .none, fun _ _ => none, fun _ => none⟩ | false => noHint
theorem Eok_up : EnvOk Tryz.prog E_up := EnvOk.cons (x := .pure g_node17) fn_node17 (EnvOk.nil _)
def F_up (a0 : TDesign) (a1 : ByteArray) (R : T → Prop) : Prop :=
  loopK (ByteArray × List ByteArray × Int × PUnit)
  (fun (X0 : ByteArray × List ByteArray × Int × PUnit → Prop) (s1 : ByteArray × List ByteArray × Int × PUnit) =>
    iteP (decide (s1.snd.snd.fst ≤ 64))
      (callK [(true, yNode), (false, Sy.bool)]
        (g_node17 [encV true yDesign a0, T.v (Value.string s1.fst)])
        fun (y2 : TNode × Bool) =>
        iteP (!y2.snd) (R (T.tup [T.sl false [], T.v (Value.bool false)]))
          (reqK
            (decide (((List.map Sy.str.enc s1.snd.fst).length + 1) * 16 ≤ 140737488355328) &&
              decide ((List.map Sy.str.enc s1.snd.fst).length + 1 ≤ 140737488355328))
            (iteP (decide (y2.fst.snd.fst = 1))
              (R
                (T.tup
                  [T.sl false (List.map Sy.str.enc s1.snd.fst ++ [[T.v (Value.string s1.fst)]]),
                    T.v (Value.bool true)]))
              (decK Sy.str (List.map Sy.str.enc s1.snd.fst ++ [[T.v (Value.string s1.fst)]])
                fun (y3 : List ByteArray) => X0 (y2.fst.snd.snd, y3, IntKind.i64.wrap (s1.snd.snd.fst + 1), ())))))
      (R (T.tup [T.sl false [], T.v (Value.bool false)])))
  (a1, [], 0, ())
theorem F_up_eq (a0 : TDesign) (a1 : ByteArray) (R : T → Prop) : sxTop stdC2 Tryz.prog E_up H_up 8 81 [encV true yDesign a0, encV false Sy.str a1] R = F_up a0 a1 R := by kernel_rfl
abbrev s_up : Sh := [(true, yDesign), (false, Sy.str)]
abbrev r_up : Sh := [(false, Sy.str.li), (false, Sy.bool)]
theorem r_up_call (y : Sh.den r_up) (K : Sh.den r_up → Prop) : callK r_up (some (Sh.enc r_up y)) K = K y := callK_enc rfl y K

noncomputable def g_up : List T → Option (T) := gS s_up sp_up
theorem g_up_at {a0 : TDesign} {a1 : ByteArray} : g_up [encV true yDesign a0, T.v (Value.string a1)] = sp_up (a0, a1) := gS_enc (s := s_up) rfl (a0, a1) rfl
theorem g_up_op {u0 u1 u2 u3 u4 u5 u6} : g_up [T.agg
    [T.v (Value.string u0), T.sl false (List.map yNode.enc u1),
      T.sl false (List.map yPart.enc u2),
      T.sl false (List.map ySeam.enc u3),
      T.sl false (List.map yPackage.enc u4),
      T.sl false (List.map yNeed.enc u5)],
  T.v (Value.string u6)] = sp_up ((u0, (u1, (u2, (u3, (u4, u5))))), u6) := gS_enc (s := s_up) rfl ((u0, (u1, (u2, (u3, (u4, u5))))), u6) rfl
theorem of_up (h : ∀ (a0 : TDesign) (a1 : ByteArray) (r : T), sp_up (a0, a1) = some r → BdSh s_up (a0, a1) → F_up a0 a1 (fun y => y = r)) : PureFn Tryz.prog 81 g_up :=
  pureFn_S (E := E_up) (Hs := H_up) Eok_up mixed' plain' (noHeap_of rfl) 8 ⟨_, _, Tryz.func81, rfl⟩ rfl fun x r h1 h2 => by
    obtain ⟨a0, a1⟩ := x
    rw [show Sh.encs s_up (a0, a1) = [encV true yDesign a0, encV false Sy.str a1] from rfl, F_up_eq]
    exact h a0 a1 r h1 h2

theorem fn_up : PureFn Tryz.prog 81 g_up := of_up fun d id r h hb => by
  cases h
  unfold F_up
  refine loopK_ix 65 (fun k s => ∃ id' l', s = (id', l', (k : Int), ()) ∧ l'.length = k ∧ upF d (65 - k) id' l' = up d id) ⟨id, [], rfl, rfl, rfl⟩ ?_
  rintro X k s hk ⟨id', l', rfl, hl, hu⟩ hX
  dsimp only
  by_cases hlt : k < 65
  · have h1 : decide ((k : Int) ≤ 64) = true := by simp; omega
    obtain ⟨m, hm⟩ : ∃ m, 65 - k = m + 1 := ⟨64 - k, by omega⟩
    rw [hm] at hu
    simp only [upF] at hu
    simp only [h1, app_ok (l := l') (by omega), dec_snoc, iteP, g_node17_at, sp_node17, sp_node, r_node17_call]
    cases hn : nodeOf d id' with
    | none => simp only [hn] at hu; simp only [found]; rw [← hu]; rfl
    | some x =>
      simp only [hn] at hu
      simp only [found, Bool.not_true]
      by_cases hx : x.2.1 = 1
      · simp only [hx, decide_true]
        rw [if_pos hx] at hu
        rw [← hu, enc_snoc]; rfl
      · simp only [hx, decide_false]
        rw [if_neg hx] at hu
        rw [dec_snoc]
        refine hX _ hlt ⟨x.2.2, l' ++ [id'], ?_, by simp [hl], by rw [← hu]; congr 1; omega⟩
        simp only [Prod.mk.injEq, and_true, true_and]
        exact wrap_id _ (by omega) (by omega)
  · have h1 : decide ((k : Int) ≤ 64) = false := by simp; omega
    have : 65 - k = 0 := by omega
    rw [this] at hu
    rw [h1, ← hu]
    rfl
set_option maxRecDepth 100000
noncomputable def E_path017 : Env := Env.of [(42, .pure g_node17), (86, .pure g_part17), (81, .pure g_up)]
def H_path017 : FuncId → Hint := fun f => match f == 82 with | true => ⟨fun r => match r == 11 with | true => .inv [.own 12 1 .str, .val 13 false (.int .i64)] | false => .none, fun _ _ => none, fun _ => none⟩ | false => noHint
theorem Eok_path017 : EnvOk Tryz.prog E_path017 := EnvOk.cons (x := .pure g_node17) fn_node17 (EnvOk.cons (x := .pure g_part17) fn_part17 (EnvOk.cons (x := .pure g_up) fn_up (EnvOk.nil _)))
def F_path017 (a0 : TDesign) (a1 : ByteArray) (R : T → Prop) : Prop :=
  callK [(true, yNode), (false, Sy.bool)]
  (g_node17 [encV true yDesign a0, T.v (Value.string a1)]) fun (y0 : TNode × Bool) =>
  iteP (!y0.snd)
    (callK [(true, yPart), (false, Sy.bool)]
      (g_part17 [encV true yDesign a0, T.v (Value.string a1)])
      fun (y1 : TPart × Bool) =>
      iteP (!y1.snd) (R (T.sl false []))
        (callK [(false, Sy.str.li), (false, Sy.bool)]
          (g_up [encV true yDesign a0, T.v (Value.string y1.fst.snd.snd.snd.fst)])
          fun (y2 : List ByteArray × Bool) =>
          loopK (List ByteArray × Int × PUnit)
            (fun (X3 : List ByteArray × Int × PUnit → Prop) (s4 : List ByteArray × Int × PUnit) =>
              iteP (decide (0 ≤ s4.snd.fst))
                (rowsK Sy.str (List.map Sy.str.enc y2.fst) s4.snd.fst fun (y5 : ByteArray) =>
                  reqK
                    (decide (((List.map Sy.str.enc s4.fst).length + 1) * 16 ≤ 140737488355328) &&
                      decide ((List.map Sy.str.enc s4.fst).length + 1 ≤ 140737488355328))
                    (decK Sy.str (List.map Sy.str.enc s4.fst ++ [[T.v (Value.string y5)]])
                      fun (y6 : List ByteArray) => X3 (y6, IntKind.i64.wrap (s4.snd.fst - 1), ())))
                (R (T.sl false (List.map Sy.str.enc s4.fst))))
            ([], IntKind.i64.wrap ((↑(List.map Sy.str.enc y2.fst).length : Int) - 1), ())))
    (callK [(false, Sy.str.li), (false, Sy.bool)]
      (g_up [encV true yDesign a0, T.v (Value.string a1)])
      fun (y7 : List ByteArray × Bool) =>
      loopK (List ByteArray × Int × PUnit)
        (fun (X8 : List ByteArray × Int × PUnit → Prop) (s9 : List ByteArray × Int × PUnit) =>
          iteP (decide (0 ≤ s9.snd.fst))
            (rowsK Sy.str (List.map Sy.str.enc y7.fst) s9.snd.fst fun (y10 : ByteArray) =>
              reqK
                (decide (((List.map Sy.str.enc s9.fst).length + 1) * 16 ≤ 140737488355328) &&
                  decide ((List.map Sy.str.enc s9.fst).length + 1 ≤ 140737488355328))
                (decK Sy.str (List.map Sy.str.enc s9.fst ++ [[T.v (Value.string y10)]])
                  fun (y11 : List ByteArray) => X8 (y11, IntKind.i64.wrap (s9.snd.fst - 1), ())))
            (R (T.sl false (List.map Sy.str.enc s9.fst))))
        ([], IntKind.i64.wrap ((↑(List.map Sy.str.enc y7.fst).length : Int) - 1), ()))
theorem F_path017_eq (a0 : TDesign) (a1 : ByteArray) (R : T → Prop) : sxTop stdC2 Tryz.prog E_path017 H_path017 8 82 [encV true yDesign a0, encV false Sy.str a1] R = F_path017 a0 a1 R := by kernel_rfl
abbrev s_path017 : Sh := [(true, yDesign), (false, Sy.str)]
abbrev r_path017 : Sh := [(false, Sy.str.li)]
theorem r_path017_call (y : Sh.den r_path017) (K : Sh.den r_path017 → Prop) : callK r_path017 (some (Sh.enc r_path017 y)) K = K y := callK_enc rfl y K

noncomputable def g_path017 : List T → Option (T) := gS s_path017 sp_path017
theorem g_path017_at {a0 : TDesign} {a1 : ByteArray} : g_path017 [encV true yDesign a0, T.v (Value.string a1)] = sp_path017 (a0, a1) := gS_enc (s := s_path017) rfl (a0, a1) rfl
theorem g_path017_op {u0 u1 u2 u3 u4 u5 u6} : g_path017 [T.agg
    [T.v (Value.string u0), T.sl false (List.map yNode.enc u1),
      T.sl false (List.map yPart.enc u2),
      T.sl false (List.map ySeam.enc u3),
      T.sl false (List.map yPackage.enc u4),
      T.sl false (List.map yNeed.enc u5)],
  T.v (Value.string u6)] = sp_path017 ((u0, (u1, (u2, (u3, (u4, u5))))), u6) := gS_enc (s := s_path017) rfl ((u0, (u1, (u2, (u3, (u4, u5))))), u6) rfl
theorem of_path017 (h : ∀ (a0 : TDesign) (a1 : ByteArray) (r : T), sp_path017 (a0, a1) = some r → BdSh s_path017 (a0, a1) → F_path017 a0 a1 (fun y => y = r)) : PureFn Tryz.prog 82 g_path017 :=
  pureFn_S (E := E_path017) (Hs := H_path017) Eok_path017 mixed' plain' (noHeap_of rfl) 8 ⟨_, _, Tryz.func82, rfl⟩ rfl fun x r h1 h2 => by
    obtain ⟨a0, a1⟩ := x
    rw [show Sh.encs s_path017 (a0, a1) = [encV true yDesign a0, encV false Sy.str a1] from rfl, F_path017_eq]
    exact h a0 a1 r h1 h2

theorem back_loop {ls : List ByteArray} (hl : ls.length ≤ 65) {R : T → Prop} (hR : R (T.sl false (List.map Sy.str.enc ls.reverse))) : loopK (List ByteArray × Int × PUnit)
        (fun (X8 : List ByteArray × Int × PUnit → Prop) (s9 : List ByteArray × Int × PUnit) =>
          iteP (decide (0 ≤ s9.snd.fst))
            (rowsK Sy.str (List.map Sy.str.enc ls) s9.snd.fst fun (y10 : ByteArray) =>
              reqK
                (decide (((List.map Sy.str.enc s9.fst).length + 1) * 16 ≤ 140737488355328) && decide ((List.map Sy.str.enc s9.fst).length + 1 ≤ 140737488355328))
                (decK Sy.str (List.map Sy.str.enc s9.fst ++ [[T.v (Value.string y10)]])
                  fun (y11 : List ByteArray) => X8 (y11, IntKind.i64.wrap (s9.snd.fst - 1), ())))
            (R (T.sl false (List.map Sy.str.enc s9.fst))))
        ([], IntKind.i64.wrap ((↑(List.map Sy.str.enc ls).length : Int) - 1), ()) := by
  refine loopK_ix ls.length (fun k s => s = (ls.reverse.take k, (ls.length : Int) - 1 - k, ())) ?_ ?_
  · simp only [List.take_zero, List.length_map, Prod.mk.injEq, and_true, true_and]
    rw [wrap_id _ (by omega) (by omega)]; simp
  rintro X k s hk rfl hX
  by_cases hlt : k < ls.length
  · have h1 : decide (0 ≤ (ls.length : Int) - 1 - k) = true := by simp; omega
    have e : (ls.length : Int) - 1 - k = ((ls.length - 1 - k : Nat) : Int) := by omega
    dsimp only
    rw [h1, e, rowsK_at (r := .str) (show ls.length - 1 - k < ls.length by omega), app_ok (by simp; omega), dec_snoc]
    simp only [iteP]
    refine hX _ hlt ?_
    have hg : ls.reverse.take (k + 1) = ls.reverse.take k ++ [ls[ls.length - 1 - k]] := by
      rw [List.take_succ_eq_append_getElem (by simpa using hlt)]
      simp
    rw [hg]
    simp only [Prod.mk.injEq, and_true, true_and]
    rw [wrap_id _ (by omega) (by omega)]; omega
  · have : k = ls.length := by omega
    subst this
    have h1 : decide (0 ≤ (ls.length : Int) - 1 - ls.length) = false := by simp; omega
    simp only [h1, iteP]
    rw [List.take_of_length_le (by simp)]
    exact hR
theorem fn_path017 : PureFn Tryz.prog 82 g_path017 := of_path017 fun d id r h hb => by
  have h' : onlyD d (Sh.enc r_ls (path0 d id)) = some r := h
  obtain ⟨hok, rfl⟩ := onlyD_of h'
  clear h h'
  unfold F_path017
  simp only [g_node17_at, sp_node17, sp_node, r_node17_call, g_part17_at, sp_part17, sp_part, r_part17_call, g_up_at, sp_up, r_up_call]
  cases hn : nodeOf d id with
  | some x =>
    simp only [found, Bool.not_true, iteP_t, iteP_f]
    exact back_loop (up_len d id) (R := fun y => y = Sh.enc r_ls (path0 d id)) (by simp [path0, hn, Sh.enc, encV, Sy.enc, hdT])
  | none =>
    simp only [found, Bool.not_false, iteP_t, iteP_f]
    cases hp : partOf d id with
    | none => simp only [Bool.not_false, iteP_t]; simp [path0, hn, hp, Sh.enc, encV, Sy.enc, hdT]
    | some p =>
      simp only [Bool.not_true, iteP_t, iteP_f]
      exact back_loop (up_len d (pNode p)) (R := fun y => y = Sh.enc r_ls (path0 d id)) (by simp [path0, hn, hp, Sh.enc, encV, Sy.enc, hdT])
theorem app_ok' {l : List ByteArray} {x : ByteArray} (h : l.length ≤ 8000000000000) (K : Prop) : reqK (decide (1 = 1) && allW 1 [[T.v (Value.string x)]] && decide (((List.map Sy.str.enc l).length + [[T.v (Value.string x)].reverse].reverse.length) * 16 ≤ 140737488355328) && decide ((List.map Sy.str.enc l).length + [[T.v (Value.string x)].reverse].reverse.length ≤ 140737488355328)) K = K := by
  have e : (decide (1 = 1) && allW 1 [[T.v (Value.string x)]] && decide (((List.map Sy.str.enc l).length + [[T.v (Value.string x)].reverse].reverse.length) * 16 ≤ 140737488355328) && decide ((List.map Sy.str.enc l).length + [[T.v (Value.string x)].reverse].reverse.length ≤ 140737488355328)) = true := by
    simp only [List.length_map, Bool.and_eq_true, decide_eq_true_eq, List.length_reverse, List.length_cons, List.length_nil]
    refine ⟨⟨⟨trivial, rfl⟩, ?_⟩, ?_⟩ <;> omega
  rw [e]; simp [reqK]
set_option maxRecDepth 100000
noncomputable def E_path0 : Env := Env.of [(40, .pure g_node), (19, .pure g_partD)]
def H_path0 : FuncId → Hint := fun f => match f == 17 with | true => ⟨fun r => match r == 9 with | true => .inv [.own 4 1 .str, .val 38 false (.int .i64)] | false => .none, fun i j => match i == 7 && j == 7 with | true => some [.own 9 1 .str, .val 10 false .bool] | false => none, fun _ => none⟩ | false => match f == 39 with | true => ⟨fun r => match r == 3 with | true => .inv [.val 1 false .str, .own 6 1 .str, .val 9 false (.int .i64)] | false => .none, fun _ _ => none, fun _ => none⟩ | false => noHint
theorem Eok_path0 : EnvOk Tryz.prog E_path0 := EnvOk.cons (x := .pure g_node) fn_node (EnvOk.cons (x := .pure g_partD) fn_partD (EnvOk.nil _))
def F_path0 (a0 : TDesign) (a1 : ByteArray) (R : T → Prop) : Prop :=
  callK [(true, yNode), (false, Sy.bool)]
  (g_node [encV true yDesign a0, T.v (Value.string a1)]) fun (y0 : TNode × Bool) =>
  iteP (!y0.snd)
    (callK [(true, yPart), (false, Sy.bool)]
      (g_partD [encV true yDesign a0, T.v (Value.string a1)])
      fun (y1 : TPart × Bool) =>
      iteP (!y1.snd) (R (T.sl false []))
        (joinK (List ByteArray × Bool × PUnit)
          (fun (X2 : List ByteArray × Bool × PUnit → Prop) =>
            loopK (ByteArray × List ByteArray × Int × PUnit)
              (fun (X3 : ByteArray × List ByteArray × Int × PUnit → Prop)
                  (s4 : ByteArray × List ByteArray × Int × PUnit) =>
                iteP (decide (s4.snd.snd.fst < 65))
                  (callK [(true, yNode), (false, Sy.bool)]
                    (g_node [encV true yDesign a0, T.v (Value.string s4.fst)])
                    fun (y5 : TNode × Bool) =>
                    iteP (!y5.snd) (X2 ([], false, ()))
                      (reqK
                        (decide (((List.map Sy.str.enc s4.snd.fst).length + 1) * 16 ≤ 140737488355328) &&
                          decide ((List.map Sy.str.enc s4.snd.fst).length + 1 ≤ 140737488355328))
                        (iteP (decide (y5.fst.snd.fst = 1))
                          (decK Sy.str
                            (List.map Sy.str.enc s4.snd.fst ++ [[T.v (Value.string s4.fst)]])
                            fun (y6 : List ByteArray) => X2 (y6, true, ()))
                          (decK Sy.str
                            (List.map Sy.str.enc s4.snd.fst ++ [[T.v (Value.string s4.fst)]])
                            fun (y7 : List ByteArray) =>
                            X3 (y5.fst.snd.snd, y7, IntKind.i64.wrap (s4.snd.snd.fst + 1), ())))))
                  (X2 ([], false, ())))
              (y1.fst.snd.snd.snd.fst, [], 0, ()))
          fun (s8 : List ByteArray × Bool × PUnit) =>
          loopK (List ByteArray × Int × PUnit)
            (fun (X9 : List ByteArray × Int × PUnit → Prop) (s10 : List ByteArray × Int × PUnit) =>
              iteP (decide (s10.snd.fst < (↑(List.map Sy.str.enc s8.fst).length : Int)))
                (rowsK Sy.str (List.map Sy.str.enc s8.fst)
                  (IntKind.i64.wrap
                    (IntKind.i64.wrap ((↑(List.map Sy.str.enc s8.fst).length : Int) - 1) - s10.snd.fst))
                  fun (y11 : ByteArray) =>
                  partK Sy.str (List.map Sy.str.enc s8.fst)
                    (IntKind.i64.wrap
                        (IntKind.i64.wrap ((↑(List.map Sy.str.enc s8.fst).length : Int) - 1) -
                          s10.snd.fst)).toNat
                    0 fun (y12 : ByteArray) =>
                    reqK
                      (decide (((List.map Sy.str.enc s10.fst).length + 1) * 16 ≤ 140737488355328) &&
                        decide ((List.map Sy.str.enc s10.fst).length + 1 ≤ 140737488355328))
                      (decK Sy.str
                        (List.map Sy.str.enc s10.fst ++ [[T.v (Value.string y12)]])
                        fun (y13 : List ByteArray) => X9 (y13, IntKind.i64.wrap (s10.snd.fst + 1), ())))
                (R (T.sl false (List.map Sy.str.enc s10.fst))))
            ([], 0, ())))
    (joinK (List ByteArray × Bool × PUnit)
      (fun (X14 : List ByteArray × Bool × PUnit → Prop) =>
        loopK (ByteArray × List ByteArray × Int × PUnit)
          (fun (X15 : ByteArray × List ByteArray × Int × PUnit → Prop)
              (s16 : ByteArray × List ByteArray × Int × PUnit) =>
            iteP (decide (s16.snd.snd.fst < 65))
              (callK [(true, yNode), (false, Sy.bool)]
                (g_node [encV true yDesign a0, T.v (Value.string s16.fst)])
                fun (y17 : TNode × Bool) =>
                iteP (!y17.snd) (X14 ([], false, ()))
                  (reqK
                    (decide (((List.map Sy.str.enc s16.snd.fst).length + 1) * 16 ≤ 140737488355328) &&
                      decide ((List.map Sy.str.enc s16.snd.fst).length + 1 ≤ 140737488355328))
                    (iteP (decide (y17.fst.snd.fst = 1))
                      (decK Sy.str
                        (List.map Sy.str.enc s16.snd.fst ++ [[T.v (Value.string s16.fst)]])
                        fun (y18 : List ByteArray) => X14 (y18, true, ()))
                      (decK Sy.str
                        (List.map Sy.str.enc s16.snd.fst ++ [[T.v (Value.string s16.fst)]])
                        fun (y19 : List ByteArray) =>
                        X15 (y17.fst.snd.snd, y19, IntKind.i64.wrap (s16.snd.snd.fst + 1), ())))))
              (X14 ([], false, ())))
          (a1, [], 0, ()))
      fun (s20 : List ByteArray × Bool × PUnit) =>
      loopK (List ByteArray × Int × PUnit)
        (fun (X21 : List ByteArray × Int × PUnit → Prop) (s22 : List ByteArray × Int × PUnit) =>
          iteP (decide (s22.snd.fst < (↑(List.map Sy.str.enc s20.fst).length : Int)))
            (rowsK Sy.str (List.map Sy.str.enc s20.fst)
              (IntKind.i64.wrap
                (IntKind.i64.wrap ((↑(List.map Sy.str.enc s20.fst).length : Int) - 1) - s22.snd.fst))
              fun (y23 : ByteArray) =>
              partK Sy.str (List.map Sy.str.enc s20.fst)
                (IntKind.i64.wrap
                    (IntKind.i64.wrap ((↑(List.map Sy.str.enc s20.fst).length : Int) - 1) - s22.snd.fst)).toNat
                0 fun (y24 : ByteArray) =>
                reqK
                  (decide (((List.map Sy.str.enc s22.fst).length + 1) * 16 ≤ 140737488355328) &&
                    decide ((List.map Sy.str.enc s22.fst).length + 1 ≤ 140737488355328))
                  (decK Sy.str (List.map Sy.str.enc s22.fst ++ [[T.v (Value.string y24)]])
                    fun (y25 : List ByteArray) => X21 (y25, IntKind.i64.wrap (s22.snd.fst + 1), ())))
            (R (T.sl false (List.map Sy.str.enc s22.fst))))
        ([], 0, ()))
theorem F_path0_eq (a0 : TDesign) (a1 : ByteArray) (R : T → Prop) : sxTop stdC2 Tryz.prog E_path0 H_path0 8 17 [encV true yDesign a0, encV false Sy.str a1] R = F_path0 a0 a1 R := by kernel_rfl
abbrev s_path0 : Sh := [(true, yDesign), (false, Sy.str)]
abbrev r_path0 : Sh := [(false, Sy.str.li)]
theorem r_path0_call (y : Sh.den r_path0) (K : Sh.den r_path0 → Prop) : callK r_path0 (some (Sh.enc r_path0 y)) K = K y := callK_enc rfl y K

noncomputable def g_path0 : List T → Option (T) := gS s_path0 sp_path0
theorem g_path0_at {a0 : TDesign} {a1 : ByteArray} : g_path0 [encV true yDesign a0, T.v (Value.string a1)] = sp_path0 (a0, a1) := gS_enc (s := s_path0) rfl (a0, a1) rfl
theorem g_path0_op {u0 u1 u2 u3 u4 u5 u6} : g_path0 [T.agg
    [T.v (Value.string u0), T.sl false (List.map yNode.enc u1),
      T.sl false (List.map yPart.enc u2),
      T.sl false (List.map ySeam.enc u3),
      T.sl false (List.map yPackage.enc u4),
      T.sl false (List.map yNeed.enc u5)],
  T.v (Value.string u6)] = sp_path0 ((u0, (u1, (u2, (u3, (u4, u5))))), u6) := gS_enc (s := s_path0) rfl ((u0, (u1, (u2, (u3, (u4, u5))))), u6) rfl
theorem of_path0 (h : ∀ (a0 : TDesign) (a1 : ByteArray) (r : T), sp_path0 (a0, a1) = some r → BdSh s_path0 (a0, a1) → F_path0 a0 a1 (fun y => y = r)) : PureFn Tryz.prog 17 g_path0 :=
  pureFn_S (E := E_path0) (Hs := H_path0) Eok_path0 mixed' plain' (noHeap_of rfl) 8 ⟨_, _, Tryz.func17, rfl⟩ rfl fun x r h1 h2 => by
    obtain ⟨a0, a1⟩ := x
    rw [show Sh.encs s_path0 (a0, a1) = [encV true yDesign a0, encV false Sy.str a1] from rfl, F_path0_eq]
    exact h a0 a1 r h1 h2

theorem forth_loop {ls : List ByteArray} (hl : ls.length ≤ 65) {R : T → Prop} (hR : R (T.sl false (List.map Sy.str.enc ls.reverse))) : loopK (List ByteArray × Int × PUnit)
            (fun (X9 : List ByteArray × Int × PUnit → Prop) (s10 : List ByteArray × Int × PUnit) =>
              iteP (decide (s10.snd.fst < (↑(List.map Sy.str.enc ls).length : Int)))
                (rowsK Sy.str (List.map Sy.str.enc ls)
                  (IntKind.i64.wrap
                    (IntKind.i64.wrap ((↑(List.map Sy.str.enc ls).length : Int) - 1) - s10.snd.fst))
                  fun (y11 : ByteArray) =>
                  partK Sy.str (List.map Sy.str.enc ls)
                    (IntKind.i64.wrap
                        (IntKind.i64.wrap ((↑(List.map Sy.str.enc ls).length : Int) - 1) -
                          s10.snd.fst)).toNat
                    0 fun (y12 : ByteArray) =>
                    reqK
                      (decide (1 = 1) && allW 1 [[T.v (Value.string y12)]] &&
                          decide
                            (((List.map Sy.str.enc s10.fst).length +
                                  [[T.v (Value.string y12)].reverse].reverse.length) *
                                16 ≤
                              140737488355328) &&
                        decide
                          ((List.map Sy.str.enc s10.fst).length +
                              [[T.v (Value.string y12)].reverse].reverse.length ≤
                            140737488355328))
                      (decK Sy.str
                        (List.map Sy.str.enc s10.fst ++ [[T.v (Value.string y12)]])
                        fun (y13 : List ByteArray) => X9 (y13, IntKind.i64.wrap (s10.snd.fst + 1), ())))
                (R (T.sl false (List.map Sy.str.enc s10.fst))))
            ([], 0, ()) := by
  refine loopK_ix ls.length (fun k s => s = (ls.reverse.take k, (k : Int), ())) (by simp) ?_
  rintro X k s hk rfl hX
  by_cases hlt : k < ls.length
  · have h1 : decide ((k : Int) < ((List.map Sy.str.enc ls).length : Int)) = true := by simp; omega
    have e : IntKind.i64.wrap (IntKind.i64.wrap (((List.map Sy.str.enc ls).length : Int) - 1) - k) = ((ls.length - 1 - k : Nat) : Int) := by
      rw [List.length_map, wrap_id ((ls.length : Int) - 1) (by omega) (by omega), wrap_id _ (by omega) (by omega)]; omega
    have hlt2 : ls.length - 1 - k < ls.length := by omega
    dsimp only
    rw [h1, e, rowsK_at (r := .str) hlt2, Int.toNat_natCast, partK_at (r := .str) hlt2, app_ok' (by simp; omega), dec_snoc, iteP_t]
    refine hX _ hlt ?_
    have hg : ls.reverse.take (k + 1) = ls.reverse.take k ++ [ls[ls.length - 1 - k]] := by
      rw [List.take_succ_eq_append_getElem (by simpa using hlt)]
      simp
    rw [hg]
    simp only [Prod.mk.injEq, and_true, true_and]
    exact wrap_id _ (by omega) (by omega)
  · have : k = ls.length := by omega
    subst this
    have h1 : decide ((ls.length : Int) < ((List.map Sy.str.enc ls).length : Int)) = false := by simp
    simp only [h1, iteP_f]
    rw [List.take_of_length_le (by simp)]
    exact hR
theorem fn_path0 : PureFn Tryz.prog 17 g_path0 := of_path0 fun d id r h hb => by
  have h' : onlyD d (Sh.enc r_ls (path0 d id)) = some r := h
  obtain ⟨hok, rfl⟩ := onlyD_of h'
  clear h h'
  unfold F_path0
  simp only [g_node_at, sp_node, r_node_call, g_partD_at, sp_partD, sp_part, hok, r_partD_call]
  have key : ∀ id0, path0 d id = (up d id0).1.reverse → joinK (List ByteArray × Bool × PUnit)
      (fun (X14 : List ByteArray × Bool × PUnit → Prop) =>
        loopK (ByteArray × List ByteArray × Int × PUnit)
          (fun (X15 : ByteArray × List ByteArray × Int × PUnit → Prop)
              (s16 : ByteArray × List ByteArray × Int × PUnit) =>
            iteP (decide (s16.snd.snd.fst < 65))
                (iteP (!(found noNode (nodeOf d s16.fst)).snd) (X14 ([], false, ()))
                  (reqK
                    (decide (1 = 1) && allW 1 [[T.v (Value.string s16.fst)]] &&
                        decide
                          (((List.map Sy.str.enc s16.snd.fst).length +
                                [[T.v (Value.string s16.fst)].reverse].reverse.length) *
                              16 ≤
                            140737488355328) &&
                      decide
                        ((List.map Sy.str.enc s16.snd.fst).length +
                            [[T.v (Value.string s16.fst)].reverse].reverse.length ≤
                          140737488355328))
                    (iteP (decide ((found noNode (nodeOf d s16.fst)).fst.snd.fst = 1))
                      (decK Sy.str
                        (List.map Sy.str.enc s16.snd.fst ++ [[T.v (Value.string s16.fst)]])
                        fun (y18 : List ByteArray) => X14 (y18, true, ()))
                      (decK Sy.str
                        (List.map Sy.str.enc s16.snd.fst ++ [[T.v (Value.string s16.fst)]])
                        fun (y19 : List ByteArray) =>
                        X15 ((found noNode (nodeOf d s16.fst)).fst.snd.snd, y19, IntKind.i64.wrap (s16.snd.snd.fst + 1), ())))))
              (X14 ([], false, ())))
          (id0, [], 0, ()))
      fun (s20 : List ByteArray × Bool × PUnit) =>
      loopK (List ByteArray × Int × PUnit)
        (fun (X21 : List ByteArray × Int × PUnit → Prop) (s22 : List ByteArray × Int × PUnit) =>
          iteP (decide (s22.snd.fst < (↑(List.map Sy.str.enc s20.fst).length : Int)))
            (rowsK Sy.str (List.map Sy.str.enc s20.fst)
              (IntKind.i64.wrap
                (IntKind.i64.wrap ((↑(List.map Sy.str.enc s20.fst).length : Int) - 1) - s22.snd.fst))
              fun (y23 : ByteArray) =>
              partK Sy.str (List.map Sy.str.enc s20.fst)
                (IntKind.i64.wrap
                    (IntKind.i64.wrap ((↑(List.map Sy.str.enc s20.fst).length : Int) - 1) - s22.snd.fst)).toNat
                0 fun (y24 : ByteArray) =>
                reqK
                  (decide (1 = 1) && allW 1 [[T.v (Value.string y24)]] &&
                      decide
                        (((List.map Sy.str.enc s22.fst).length +
                              [[T.v (Value.string y24)].reverse].reverse.length) *
                            16 ≤
                          140737488355328) &&
                    decide
                      ((List.map Sy.str.enc s22.fst).length +
                          [[T.v (Value.string y24)].reverse].reverse.length ≤
                        140737488355328))
                  (decK Sy.str (List.map Sy.str.enc s22.fst ++ [[T.v (Value.string y24)]])
                    fun (y25 : List ByteArray) => X21 (y25, IntKind.i64.wrap (s22.snd.fst + 1), ())))
            (T.sl false (List.map Sy.str.enc s22.fst) = Sh.enc r_ls (path0 d id)))
        ([], 0, ()) := by
    intro id0 hpath
    rw [joinK_def, hpath]
    refine loopK_ix 65 (fun k s => ∃ id' l', s = (id', l', (k : Int), ()) ∧ l'.length = k ∧ upF d (65 - k) id' l' = up d id0) ⟨id0, [], rfl, rfl, rfl⟩ ?_
    rintro X k s hk ⟨id', l', rfl, hl, hu⟩ hX
    dsimp only
    have fin : ∀ ls b, (ls, b) = up d id0 → _ := fun ls b e => forth_loop (ls := ls) (by rw [show ls = (up d id0).1 by rw [← e]]; exact up_len d id0) (R := fun y => y = Sh.enc r_ls (up d id0).1.reverse) (by rw [← e]; rfl)
    by_cases hlt : k < 65
    · have h1 : decide ((k : Int) < 65) = true := by simp; omega
      obtain ⟨m, hm⟩ : ∃ m, 65 - k = m + 1 := ⟨64 - k, by omega⟩
      rw [hm] at hu
      simp only [upF] at hu
      rw [h1, iteP_t, app_ok' (by omega), dec_snoc, dec_snoc]
      cases hn : nodeOf d id' with
      | none => simp only [hn] at hu; simp only [found, Bool.not_false, iteP_t]; exact fin _ _ hu
      | some x =>
        simp only [hn] at hu
        simp only [found, Bool.not_true, iteP_f]
        by_cases hx : x.2.1 = 1
        · rw [if_pos hx] at hu
          simp only [hx, decide_true, iteP_t]
          exact fin _ _ hu
        · rw [if_neg hx] at hu
          simp only [hx, decide_false, iteP_f]
          refine hX _ hlt ⟨x.2.2, l' ++ [id'], ?_, by simp [hl], by rw [← hu]; congr 1; omega⟩
          simp only [Prod.mk.injEq, and_true, true_and]
          exact wrap_id _ (by omega) (by omega)
    · have h1 : decide ((k : Int) < 65) = false := by simp; omega
      have : 65 - k = 0 := by omega
      rw [this] at hu
      rw [h1, iteP_f]
      exact fin _ _ hu
  cases hn : nodeOf d id with
  | some x =>
    simp only [found, Bool.not_true, iteP_f]
    exact key id (by simp [path0, hn])
  | none =>
    simp only [found, Bool.not_false, iteP_t]
    cases hp : partOf d id with
    | none => simp only [Bool.not_false, iteP_t]; simp [path0, hn, hp, Sh.enc, encV, Sy.enc, hdT]
    | some p =>
      simp only [Bool.not_true, iteP_f]
      exact key (pNode p) (by simp [path0, hn, hp])
end Go.Pv
