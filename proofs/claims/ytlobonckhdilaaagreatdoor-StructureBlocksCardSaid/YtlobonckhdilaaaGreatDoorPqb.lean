/-
  StructureFinds: Part, Node, Seam and Package answer as the reference does.
-/
import Derived.Test.YtlobonckhdilaaaGreatDoorPqa
import Derived.Test.YtlobonckhdilaaaGreatDoorPa17
import Derived.Test.YtlobonckhdilaaaGreatDoorPkj
set_option linter.unusedSimpArgs false
set_option linter.unusedVariables false
set_option maxRecDepth 100000
namespace Go.Pv
open Go Go.Proofs
def few (d : TDesign) (n : Int) : Bool := decide ((d.2.1.length : Int) ≤ n) && decide ((d.2.2.1.length : Int) ≤ n) && decide ((d.2.2.2.1.length : Int) ≤ n) && decide ((d.2.2.2.2.1.length : Int) ≤ n) && decide ((d.2.2.2.2.2.length : Int) ≤ n) && d.2.2.2.2.1.all fun k => decide ((k.2.2.1.length : Int) ≤ n) && decide ((k.2.2.2.2.length : Int) ≤ n)
def sp_few (x : TDesign × Int) : Option T := some (Sh.enc r_b (few x.1 x.2))
set_option maxRecDepth 100000
noncomputable def E_few : Env := Env.of []
def H_few : FuncId → Hint := fun f => match f == 7 with | true => ⟨fun r => match r == 4 with | true => .inv [.val 5 false (.int .i64)] | false => .none, fun _ _ => none, fun _ => none⟩ | false => noHint
theorem Eok_few : EnvOk Tryz.prog E_few := EnvOk.nil _
def F_few (a0 : TDesign) (a1 : Int) (R : T → Prop) : Prop :=
  iteP (decide (a1 < (↑(List.map yNode.enc a0.snd.fst).length : Int))) (R (T.v (Value.bool false)))
  (iteP (decide (a1 < (↑(List.map yPart.enc a0.snd.snd.fst).length : Int)))
    (R (T.v (Value.bool false)))
    (iteP (decide (a1 < (↑(List.map ySeam.enc a0.snd.snd.snd.fst).length : Int)))
      (R (T.v (Value.bool false)))
      (iteP (decide (a1 < (↑(List.map yPackage.enc a0.snd.snd.snd.snd.fst).length : Int)))
        (R (T.v (Value.bool false)))
        (iteP (decide (a1 < (↑(List.map yNeed.enc a0.snd.snd.snd.snd.snd).length : Int)))
          (R (T.v (Value.bool false)))
          (loopK (Int × PUnit)
            (fun (X0 : Int × PUnit → Prop) (s1 : Int × PUnit) =>
              iteP (decide (s1.fst < (↑(List.map yPackage.enc a0.snd.snd.snd.snd.fst).length : Int)))
                (rowsK yPackage (List.map yPackage.enc a0.snd.snd.snd.snd.fst) s1.fst
                  fun (y2 : TPackage) =>
                  iteP (decide (a1 < (↑(List.map Sy.str.enc y2.snd.snd.fst).length : Int)))
                    (R (T.v (Value.bool false)))
                    (rowsK yPackage (List.map yPackage.enc a0.snd.snd.snd.snd.fst) s1.fst
                      fun (y3 : TPackage) =>
                      iteP (decide (a1 < (↑(List.map Sy.str.enc y3.snd.snd.snd.snd).length : Int)))
                        (R (T.v (Value.bool false))) (X0 (IntKind.i64.wrap (s1.fst + 1), ()))))
                (R (T.v (Value.bool true))))
            (0, ()))))))
theorem F_few_eq (a0 : TDesign) (a1 : Int) (R : T → Prop) : sxTop stdC2 Tryz.prog E_few H_few 8 7 [encV true yDesign a0, encV false (Sy.int IntKind.i64) a1] R = F_few a0 a1 R := by kernel_rfl
abbrev s_few : Sh := [(true, yDesign), (false, (Sy.int IntKind.i64))]
abbrev r_few : Sh := [(false, Sy.bool)]
theorem r_few_call (y : Sh.den r_few) (K : Sh.den r_few → Prop) : callK r_few (some (Sh.enc r_few y)) K = K y := callK_enc rfl y K

noncomputable def g_few : List T → Option (T) := gS s_few sp_few
theorem g_few_at {a0 : TDesign} {a1 : Int} : g_few [encV true yDesign a0, T.v (Value.int IntKind.i64 a1)] = sp_few (a0, a1) := gS_enc (s := s_few) rfl (a0, a1) rfl
theorem g_few_op {u0 u1 u2 u3 u4 u5 u6} : g_few [T.agg
    [T.v (Value.string u0), T.sl false (List.map yNode.enc u1),
      T.sl false (List.map yPart.enc u2),
      T.sl false (List.map ySeam.enc u3),
      T.sl false (List.map yPackage.enc u4),
      T.sl false (List.map yNeed.enc u5)],
  T.v (Value.int IntKind.i64 u6)] = sp_few ((u0, (u1, (u2, (u3, (u4, u5))))), u6) := gS_enc (s := s_few) rfl ((u0, (u1, (u2, (u3, (u4, u5))))), u6) rfl
theorem of_few (h : ∀ (a0 : TDesign) (a1 : Int) (r : T), sp_few (a0, a1) = some r → BdSh s_few (a0, a1) → F_few a0 a1 (fun y => y = r)) : PureFn Tryz.prog 7 g_few :=
  pureFn_S (E := E_few) (Hs := H_few) Eok_few mixed' plain' (noHeap_of rfl) 8 ⟨_, _, Tryz.func7, rfl⟩ rfl fun x r h1 h2 => by
    obtain ⟨a0, a1⟩ := x
    rw [show Sh.encs s_few (a0, a1) = [encV true yDesign a0, encV false (Sy.int IntKind.i64) a1] from rfl, F_few_eq]
    exact h a0 a1 r h1 h2

theorem iteP_le {n : Int} {m : Nat} {A B : Prop} (h1 : ¬ (m : Int) ≤ n → A) (h2 : (m : Int) ≤ n → B) : iteP (decide (n < (m : Int))) A B := by
  by_cases h : (m : Int) ≤ n
  · exact iteP_no (by omega) (h2 h)
  · exact iteP_yes (by omega) (h1 h)
theorem all_drop {α : Type} {p : α → Bool} {l : List α} {k : Nat} (h : k < l.length) : (l.drop k).all p = (p l[k] && (l.drop (k + 1)).all p) := by rw [List.drop_eq_getElem_cons h, List.all_cons]
theorem fn_few : PureFn Tryz.prog 7 g_few := of_few fun d n r h hb => by
  cases h
  have hl : d.2.2.2.2.1.length ≤ 2 ^ 47 := hb.1.2.2.2.2.1.1
  have no : few d n = false → T.v (Value.bool false) = Sh.enc r_b (few d n) := fun h => by rw [h]; rfl
  unfold F_few
  simp only [List.length_map]
  refine iteP_le (fun h => no (by simp [few, h])) fun g1 => ?_
  refine iteP_le (fun h => no (by simp [few, h])) fun g2 => ?_
  refine iteP_le (fun h => no (by simp [few, h])) fun g3 => ?_
  refine iteP_le (fun h => no (by simp [few, h])) fun g4 => ?_
  refine iteP_le (fun h => no (by simp [few, h])) fun g5 => ?_
  refine loopK_ix d.2.2.2.2.1.length (fun k s => s = ((k : Int), ()) ∧ few d n = (d.2.2.2.2.1.drop k).all fun k => decide ((k.2.2.1.length : Int) ≤ n) && decide ((k.2.2.2.2.length : Int) ≤ n)) ⟨rfl, by simp only [few, g1, g2, g3, g4, g5, decide_true, Bool.true_and, List.drop_zero]⟩ ?_
  rintro X k s hk ⟨rfl, he⟩ hX
  dsimp only
  by_cases hlt : k < d.2.2.2.2.1.length
  · rw [all_drop hlt] at he
    refine iteP_yes (by simp [hlt]) ?_
    rw [rowsK_at (r := yPackage) hlt]
    try simp only [List.length_map]
    refine iteP_le (fun h => no (by rw [he]; simp [h])) fun g6 => ?_
    try rw [rowsK_at (r := yPackage) hlt]
    try simp only [List.length_map]
    refine iteP_le (fun h => no (by rw [he]; simp [h])) fun g7 => ?_
    refine hX _ hlt ⟨by rw [show IntKind.i64.wrap ((k : Int) + 1) = ((k + 1 : Nat) : Int) from wrap_id _ (by omega) (by omega)], ?_⟩
    rw [he]
    simp only [g6, g7, decide_true, Bool.true_and]
  · have : k = d.2.2.2.2.1.length := by omega
    subst this
    refine iteP_no (by simp) ?_
    rw [he]; simp only [List.drop_length, List.all_nil]; rfl
def onlyDK (d : TDesign) (t : T) : Option T := match okD d && okK d with
  | true => some t
  | false => none
def sp_lawFinds (x : TDesign × ByteArray) : Option T := onlyDK x.1 (.v (.bool true))
set_option maxRecDepth 100000
noncomputable def E_lawFinds : Env := Env.of [(7, .pure g_few), (21, .pure g_node), (22, .pure g_node17), (23, .pure g_seam), (24, .pure g_seam17), (25, .pure g_partD), (26, .pure g_part17), (27, .pure g_pack), (28, .pure g_pack17), (29, .pure g_samePart17), (30, .pure g_samePack), (8, .pure g_awake17)]
def H_lawFinds : FuncId → Hint := fun _ => noHint
theorem Eok_lawFinds : EnvOk Tryz.prog E_lawFinds := EnvOk.cons (x := .pure g_few) fn_few (EnvOk.cons (x := .pure g_node) fn_node (EnvOk.cons (x := .pure g_node17) fn_node17 (EnvOk.cons (x := .pure g_seam) fn_seam (EnvOk.cons (x := .pure g_seam17) fn_seam17 (EnvOk.cons (x := .pure g_partD) fn_partD (EnvOk.cons (x := .pure g_part17) fn_part17 (EnvOk.cons (x := .pure g_pack) fn_pack (EnvOk.cons (x := .pure g_pack17) fn_pack17 (EnvOk.cons (x := .pure g_samePart17) fn_samePart17 (EnvOk.cons (x := .pure g_samePack) fn_samePack (EnvOk.cons (x := .pure g_awake17) fn_awake17 (EnvOk.nil _))))))))))))
def F_lawFinds (a0 : TDesign) (a1 : ByteArray) (R : T → Prop) : Prop :=
  callK [(false, Sy.bool)]
  (g_few [encV true yDesign a0, T.v (Value.int IntKind.i64 300)]) fun (y0 : Bool) =>
  iteP (!y0)
    (callK [(false, Sy.bool)] (g_awake17 []) fun (y1 : Bool) => R (T.v (Value.bool y1)))
    (callK [(true, yNode), (false, Sy.bool)]
      (g_node [encV true yDesign a0, T.v (Value.string a1)]) fun (y2 : TNode × Bool) =>
      callK [(true, yNode), (false, Sy.bool)]
        (g_node17 [encV true yDesign a0, T.v (Value.string a1)])
        fun (y3 : TNode × Bool) =>
        callK [(true, ySeam), (false, Sy.bool)]
          (g_seam [encV true yDesign a0, T.v (Value.string a1)])
          fun (y4 : TSeam × Bool) =>
          callK [(true, ySeam), (false, Sy.bool)]
            (g_seam17 [encV true yDesign a0, T.v (Value.string a1)])
            fun (y5 : TSeam × Bool) =>
            iteP
              (!(decide (y2.fst.fst = y3.fst.fst) &&
                  (decide (y2.fst.snd.fst = y3.fst.snd.fst) && (decide (y2.fst.snd.snd = y3.fst.snd.snd) && true))))
              (R (T.v (Value.bool false)))
              (iteP (!decide (y2.snd = y3.snd)) (R (T.v (Value.bool false)))
                (iteP
                  (!(decide (y4.fst.fst = y5.fst.fst) &&
                      (decide (y4.fst.snd.fst = y5.fst.snd.fst) &&
                        (decide (y4.fst.snd.snd.fst = y5.fst.snd.snd.fst) &&
                          (decide (y4.fst.snd.snd.snd.fst = y5.fst.snd.snd.snd.fst) &&
                            (decide (y4.fst.snd.snd.snd.snd.fst = y5.fst.snd.snd.snd.snd.fst) &&
                              (decide (y4.fst.snd.snd.snd.snd.snd = y5.fst.snd.snd.snd.snd.snd) && true)))))))
                  (R (T.v (Value.bool false)))
                  (iteP (!decide (y4.snd = y5.snd)) (R (T.v (Value.bool false)))
                    (callK [(true, yPart), (false, Sy.bool)]
                      (g_partD [encV true yDesign a0, T.v (Value.string a1)])
                      fun (y6 : TPart × Bool) =>
                      callK [(true, yPart), (false, Sy.bool)]
                        (g_part17 [encV true yDesign a0, T.v (Value.string a1)])
                        fun (y7 : TPart × Bool) =>
                        callK [(true, yPackage), (false, Sy.bool)]
                          (g_pack [encV true yDesign a0, T.v (Value.string a1)])
                          fun (y8 : TPackage × Bool) =>
                          callK [(true, yPackage), (false, Sy.bool)]
                            (g_pack17 [encV true yDesign a0, T.v (Value.string a1)])
                            fun (y9 : TPackage × Bool) =>
                            callK [(false, Sy.bool)]
                              (g_samePart17
                                [encV true yPart y6.fst, encV true yPart y7.fst])
                              fun (y10 : Bool) =>
                              iteP y10
                                (iteP (decide (y6.snd = y7.snd))
                                  (callK [(false, Sy.bool)]
                                    (g_samePack
                                      [encV true yPackage y8.fst, encV true yPackage y9.fst])
                                    fun (y11 : Bool) =>
                                    iteP y11
                                      (iteP (decide (y8.snd = y9.snd))
                                        (callK [(false, Sy.bool)] (g_awake17 []) fun (y12 : Bool) =>
                                          R (T.v (Value.bool y12)))
                                        (R (T.v (Value.bool false))))
                                      (R (T.v (Value.bool false))))
                                  (R (T.v (Value.bool false))))
                                (R (T.v (Value.bool false))))))))
theorem F_lawFinds_eq (a0 : TDesign) (a1 : ByteArray) (R : T → Prop) : sxTop stdC2 Tryz.prog E_lawFinds H_lawFinds 8 6 [encV true yDesign a0, encV false Sy.str a1] R = F_lawFinds a0 a1 R := by kernel_rfl
abbrev s_lawFinds : Sh := [(true, yDesign), (false, Sy.str)]
abbrev r_lawFinds : Sh := [(false, Sy.bool)]
theorem r_lawFinds_call (y : Sh.den r_lawFinds) (K : Sh.den r_lawFinds → Prop) : callK r_lawFinds (some (Sh.enc r_lawFinds y)) K = K y := callK_enc rfl y K

noncomputable def g_lawFinds : List T → Option (T) := gS s_lawFinds sp_lawFinds
theorem g_lawFinds_at {a0 : TDesign} {a1 : ByteArray} : g_lawFinds [encV true yDesign a0, T.v (Value.string a1)] = sp_lawFinds (a0, a1) := gS_enc (s := s_lawFinds) rfl (a0, a1) rfl
theorem g_lawFinds_op {u0 u1 u2 u3 u4 u5 u6} : g_lawFinds [T.agg
    [T.v (Value.string u0), T.sl false (List.map yNode.enc u1),
      T.sl false (List.map yPart.enc u2),
      T.sl false (List.map ySeam.enc u3),
      T.sl false (List.map yPackage.enc u4),
      T.sl false (List.map yNeed.enc u5)],
  T.v (Value.string u6)] = sp_lawFinds ((u0, (u1, (u2, (u3, (u4, u5))))), u6) := gS_enc (s := s_lawFinds) rfl ((u0, (u1, (u2, (u3, (u4, u5))))), u6) rfl
theorem of_lawFinds (h : ∀ (a0 : TDesign) (a1 : ByteArray) (r : T), sp_lawFinds (a0, a1) = some r → BdSh s_lawFinds (a0, a1) → F_lawFinds a0 a1 (fun y => y = r)) : PureFn Tryz.prog 6 g_lawFinds :=
  pureFn_S (E := E_lawFinds) (Hs := H_lawFinds) Eok_lawFinds mixed' plain' (noHeap_of rfl) 8 ⟨_, _, Tryz.func6, rfl⟩ rfl fun x r h1 h2 => by
    obtain ⟨a0, a1⟩ := x
    rw [show Sh.encs s_lawFinds (a0, a1) = [encV true yDesign a0, encV false Sy.str a1] from rfl, F_lawFinds_eq]
    exact h a0 a1 r h1 h2

theorem onlyDK_of {d : TDesign} {t r : T} (h : onlyDK d t = some r) : okD d = true ∧ okK d = true ∧ r = t := by
  unfold onlyDK at h; split at h
  · rename_i hc
    rw [Bool.and_eq_true] at hc
    cases h; exact ⟨hc.1, hc.2, rfl⟩
  · cases h
theorem g_awake17_call (K : Bool → Prop) : callK [(false, Sy.bool)] (g_awake17 []) K = K true := callK_enc (s := [(false, Sy.bool)]) rfl true K
theorem fn_lawFinds : PureFn Tryz.prog 6 g_lawFinds := of_lawFinds fun d id r h hb => by
  obtain ⟨hok, hok2, rfl⟩ := onlyDK_of h
  unfold F_lawFinds
  simp only [g_few_at, sp_few, r_b_call, g_awake17_call, g_node_at, g_node17_at, sp_node17, sp_node, r_node_call, r_node17_call, g_seam_at, g_seam17_at, sp_seam17, sp_seam, r_seam_call, r_seam17_call, decide_true, Bool.and_true, Bool.not_true, iteP_f]
  rw [show g_partD [encV true yDesign d, T.v (Value.string id)] = sp_partD (d, id) from g_partD_at, show g_part17 [encV true yDesign d, T.v (Value.string id)] = sp_part17 (d, id) from g_part17_at, show g_pack [encV true yDesign d, T.v (Value.string id)] = sp_pack (d, id) from g_pack_at, show g_pack17 [encV true yDesign d, T.v (Value.string id)] = sp_pack17 (d, id) from g_pack17_at]
  simp only [sp_partD, hok, sp_part17, sp_part, r_partD_call, r_part17_call, sp_pack, onlyK_ok _ hok2, sp_pack17, r_pack_call, r_pack17_call, g_samePart17_at, sp_samePart17, sp_samePart, g_samePack_at, sp_samePack, r_b_call, eqB_self, iteP_t, decide_true]
  cases few d 300 <;> trivial
theorem okLen_in {b : Nat} {r : Sy} {l : List r.den} (h : InS (.li r) l) (hb : bsz r = b) : okLen b l.length = true := by
  unfold okLen
  simp only [Bool.and_eq_true, decide_eq_true_eq]
  subst hb
  exact ⟨h.1, h.2.1⟩
theorem okD_in {d : TDesign} (h : InS yDesign d) : okD d = true := by
  refine List.all_eq_true.2 fun p hp => ?_
  obtain ⟨_, _, ⟨_, _, h3⟩, _⟩ := h
  have h4 := h3 p hp
  obtain ⟨_, _, _, _, _, _, ⟨⟨h5, h6, _⟩, h7, h8, h9⟩, _⟩ := h4
  unfold okPart okShape okLen
  simp only [Bool.and_eq_true, decide_eq_true_eq, List.all_eq_true]
  refine ⟨⟨⟨?_, ?_⟩, ?_, ?_⟩, fun q hq => ?_⟩
  · exact h5
  · exact h6
  · exact h7
  · exact h8
  · obtain ⟨g1, g2, _⟩ := h9 q hq
    exact ⟨g1, g2⟩
theorem okK_in {d : TDesign} (h : InS yDesign d) : okK d = true := by
  refine List.all_eq_true.2 fun p hp => ?_
  obtain ⟨_, _, _, _, ⟨_, _, h3⟩, _⟩ := h
  obtain ⟨_, _, ⟨h5, h6, _⟩, _, ⟨h7, h8, _⟩⟩ := h3 p hp
  unfold okPack okLen
  simp only [Bool.and_eq_true, decide_eq_true_eq]
  exact ⟨⟨h5, h6⟩, h7, h8⟩
theorem onlyDK_in {d : TDesign} (t : T) (h : InS yDesign d) : onlyDK d t = some t := by unfold onlyDK; rw [okD_in h, okK_in h]; rfl
end Go.Pv
