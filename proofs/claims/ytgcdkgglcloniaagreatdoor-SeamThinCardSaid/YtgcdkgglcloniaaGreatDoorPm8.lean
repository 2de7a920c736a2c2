/-
  What a valid design is known by; the laws of chapter 18 about valid designs: their functions, walked.
  SeamTwo, SeamThin: walked.
-/
import Derived.Test.YtgcdkgglcloniaaGreatDoorPm7
import Derived.Test.YtgcdkgglcloniaaGreatDoorPm3
import Derived.Test.YtgcdkgglcloniaaGreatDoorPm2
import Derived.KernelRfl
import Derived.Test.YtgcdkgglcloniaaGreatDoorPm1
set_option linter.unusedSimpArgs false
set_option linter.unusedVariables false
set_option maxRecDepth 100000
namespace Go.Pv
open Go Go.Proofs
set_option maxRecDepth 100000
noncomputable def E_has18 : Env := Env.of []
def H_has18 : FuncId → Hint := fun f => match f == 11 with | true => ⟨fun r => match r == 2 with | true => .inv [.val 5 false (.int .i64)] | false => .none, fun _ _ => none, fun _ => none⟩ | false => noHint
theorem Eok_has18 : EnvOk Tryz.prog E_has18 := EnvOk.nil _
def F_has18 (a0 : List ByteArray) (a1 : ByteArray) (R : T → Prop) : Prop :=
 loopK (Int × PUnit)
 (fun (X0 : Int × PUnit → Prop) (s1 : Int × PUnit) =>
 iteP (decide (s1.fst < (↑(List.map Sy.str.enc a0).length : Int)))
 (rowsK Sy.str (List.map Sy.str.enc a0) s1.fst fun (y2 : ByteArray) =>
 iteP (decide (y2 = a1)) (R (T.v (Value.bool true))) (X0 (IntKind.i64.wrap (s1.fst + 1), ())))
 (R (T.v (Value.bool false))))
 (0, ())
theorem F_has18_eq (a0 : List ByteArray) (a1 : ByteArray) (R : T → Prop) : sxTop stdC2 Tryz.prog E_has18 H_has18 8 11 [encV false Sy.str.li a0, encV false Sy.str a1] R = F_has18 a0 a1 R := by kernel_rfl
abbrev s_has18 : Sh := [(false, Sy.str.li), (false, Sy.str)]
abbrev r_has18 : Sh := [(false, Sy.bool)]
theorem r_has18_call (y : Sh.den r_has18) (K : Sh.den r_has18 → Prop) : callK r_has18 (some (Sh.enc r_has18 y)) K = K y := callK_enc rfl y K

def sp_has18 (x : List ByteArray × ByteArray) : Option T := some (T.v (Value.bool (memB x.1 x.2)))
noncomputable def g_has18 : List T → Option (T) := gS s_has18 sp_has18
theorem g_has18_at {a0 : List ByteArray} {a1 : ByteArray} : g_has18 [T.sl false (List.map Sy.str.enc a0), T.v (Value.string a1)] = sp_has18 (a0, a1) := gS_enc (s := s_has18) rfl (a0, a1) rfl
theorem g_has18_op {u0 u1} : g_has18 [T.sl false (List.map Sy.str.enc u0), T.v (Value.string u1)] = sp_has18 (u0, u1) := gS_enc (s := s_has18) rfl (u0, u1) rfl
theorem of_has18 (h : ∀ (a0 : List ByteArray) (a1 : ByteArray) (r : T), sp_has18 (a0, a1) = some r → BdSh s_has18 (a0, a1) → F_has18 a0 a1 (fun y => y = r)) : PureFn Tryz.prog 11 g_has18 :=
  pureFn_S (E := E_has18) (Hs := H_has18) Eok_has18 mixed' plain' (noHeap_of rfl) 8 ⟨_, _, Tryz.func11, rfl⟩ rfl fun x r h1 h2 => by
    obtain ⟨a0, a1⟩ := x
    rw [show Sh.encs s_has18 (a0, a1) = [encV false Sy.str.li a0, encV false Sy.str a1] from rfl, F_has18_eq]
    exact h a0 a1 r h1 h2

theorem fn_has18 : PureFn Tryz.prog 11 g_has18 := of_has18 fun l x r h hb => by
  have hl : l.length ≤ 2 ^ 47 := hb.1.1
  cases h
  unfold F_has18
  refine loopK_ix l.length (fun k s => s.1 = (k : Int) ∧ memB (l.drop k) x = memB l x) ⟨rfl, by rw [List.drop_zero]⟩ ?_
  rintro X k ⟨i, u⟩ hk ⟨rfl, he⟩ hX
  dsimp only at he ⊢
  refine ifP (fun hlt => ?_) fun hge => ?_
  · rw [List.length_map] at hlt
    have hlt : k < l.length := by omega
    rw [rowsK_at (r := .str) hlt]
    rw [List.drop_eq_getElem_cons hlt, memB, List.any_cons] at he
    refine ifP (fun h => ?_) fun h => ?_
    · rw [decide_eq_true h, Bool.true_or] at he
      show _ = T.v (Value.bool (memB l x))
      rw [← he]
    · rw [decide_eq_false h, Bool.false_or] at he
      refine hX _ hlt ⟨?_, he⟩
      show IntKind.i64.wrap ((k : Int) + 1) = _
      rw [wrap_id] <;> omega
  · rw [List.length_map] at hge
    have : k = l.length := by omega
    subst this
    rw [List.drop_length] at he
    show _ = T.v (Value.bool (memB l x))
    rw [← he]; rfl
set_option maxRecDepth 100000
noncomputable def E_valid18 : Env := Env.of [(19, .pure g_light), (20, .pure g_chkF)]
def H_valid18 : FuncId → Hint := fun _ => noHint
theorem Eok_valid18 : EnvOk Tryz.prog E_valid18 := EnvOk.cons (x := .pure g_light) fn_light (EnvOk.cons (x := .pure g_chkF) fn_chkF (EnvOk.nil _))
def F_valid18 (a0 : TDesign) (a1 : TMaterials) (R : T → Prop) : Prop :=
 callK [(false, Sy.bool)]
 (g_light [encV true yDesign a0, T.v (Value.int IntKind.i64 40)]) fun (y0 : Bool) =>
 iteP y0
 (iteP (decide ((↑(List.map yGrade.enc a1.fst).length : Int) ≤ 40))
 (iteP (decide ((↑(List.map ySection.enc a1.snd).length : Int) ≤ 40))
 (callK [(false, Sy.int IntKind.i64)]
 (g_chkF [encV true yDesign a0, encV true yMaterials a1]) fun (y1 : Int) =>
 R (T.v (Value.bool (decide (y1 = 0)))))
 (R (T.v (Value.bool false))))
 (R (T.v (Value.bool false))))
 (R (T.v (Value.bool false)))
theorem F_valid18_eq (a0 : TDesign) (a1 : TMaterials) (R : T → Prop) : sxTop stdC2 Tryz.prog E_valid18 H_valid18 8 7 [encV true yDesign a0, encV true yMaterials a1] R = F_valid18 a0 a1 R := by kernel_rfl
abbrev s_valid18 : Sh := [(true, yDesign), (true, yMaterials)]
abbrev r_valid18 : Sh := [(false, Sy.bool)]
theorem r_valid18_call (y : Sh.den r_valid18) (K : Sh.den r_valid18 → Prop) : callK r_valid18 (some (Sh.enc r_valid18 y)) K = K y := callK_enc rfl y K

def validE (d : TDesign) (m : TMaterials) : Bool := light d 40 && decide (m.1.length ≤ 40) && decide (m.2.length ≤ 40) && decide (chkF d m = 0)
def sp_valid18 (x : TDesign × TMaterials) : Option T := some (T.v (Value.bool (validE x.1 x.2)))
noncomputable def g_valid18 : List T → Option (T) := gS s_valid18 sp_valid18
theorem g_valid18_at {a0 : TDesign} {a1 : TMaterials} : g_valid18 [encV true yDesign a0, encV true yMaterials a1] = sp_valid18 (a0, a1) := gS_enc (s := s_valid18) rfl (a0, a1) rfl
theorem g_valid18_op {u0 u1 u2 u3 u4 u5 u6 u7} : g_valid18 [T.agg
    [T.v (Value.string u0), T.sl false (List.map yNode.enc u1),
      T.sl false (List.map yPart.enc u2),
      T.sl false (List.map ySeam.enc u3),
      T.sl false (List.map yPackage.enc u4),
      T.sl false (List.map yNeed.enc u5)],
  T.agg [T.sl false (List.map yGrade.enc u6), T.sl false (List.map ySection.enc u7)]] = sp_valid18 ((u0, (u1, (u2, (u3, (u4, u5))))), (u6, u7)) := gS_enc (s := s_valid18) rfl ((u0, (u1, (u2, (u3, (u4, u5))))), (u6, u7)) rfl
theorem of_valid18 (h : ∀ (a0 : TDesign) (a1 : TMaterials) (r : T), sp_valid18 (a0, a1) = some r → BdSh s_valid18 (a0, a1) → F_valid18 a0 a1 (fun y => y = r)) : PureFn Tryz.prog 7 g_valid18 :=
  pureFn_S (E := E_valid18) (Hs := H_valid18) Eok_valid18 mixed' plain' (noHeap_of rfl) 8 ⟨_, _, Tryz.func7, rfl⟩ rfl fun x r h1 h2 => by
    obtain ⟨a0, a1⟩ := x
    rw [show Sh.encs s_valid18 (a0, a1) = [encV true yDesign a0, encV true yMaterials a1] from rfl, F_valid18_eq]
    exact h a0 a1 r h1 h2

theorem fn_valid18 : PureFn Tryz.prog 7 g_valid18 := of_valid18 fun d m r h hb => by
  cases h
  unfold F_valid18
  have is : ∀ {b : Bool}, validE d m = b → T.v (Value.bool b) = T.v (Value.bool (validE d m)) := fun h => by rw [h]
  refine callK_some (s := [(false, .bool)]) (y := light d 40) (g_light_at ..) ?_
  rw [List.length_map, List.length_map]
  refine ifB (fun h1 => ?_) fun h1 => is (by unfold validE; rw [h1]; rfl)
  refine ifP (fun h2 => ?_) fun h2 => is (by unfold validE; rw [h1, decide_eq_false (by omega)]; rfl)
  refine ifP (fun h3 => ?_) fun h3 => is (by unfold validE; rw [h1, decide_eq_true (by omega), decide_eq_false (by omega)]; rfl)
  refine callK_some (s := [(false, .int .i64)]) (y := chkF d m) (g_chkF_at ..) (is ?_)
  unfold validE; rw [h1, decide_eq_true (by omega), decide_eq_true (by omega)]; rfl
/-! ### What a valid design is known by -/
theorem chkF_ok {d : TDesign} {m : TMaterials} (h : chkF d m = 0) : matE m = 0 ∧ isName d.1 = true ∧ formE d = 0 ∧ nodesE d = 0 ∧ partsE d m = 0 ∧ firstE (seamE d) d.2.2.2.1 = 0 ∧ packsE d = 0 ∧ firstE (needE d) d.2.2.2.2.2 = 0 := by
  unfold chkF at h
  split at h
  · exact absurd h ‹_›
  split at h
  · cases h
  split at h
  · exact absurd h ‹_›
  split at h
  · exact absurd h ‹_›
  split at h
  · exact absurd h ‹_›
  split at h
  · exact absurd h ‹_›
  split at h
  · exact absurd h ‹_›
  rename_i h1 h2 h3 h4 h5 h6 h7
  exact ⟨Classical.byContradiction h1, by simpa using h2, Classical.byContradiction h3, Classical.byContradiction h4, Classical.byContradiction h5, Classical.byContradiction h6, Classical.byContradiction h7, h⟩
theorem formE_ok {d : TDesign} (h : formE d = 0) : tooLong d = false ∧ (asc (ids d.2.1) = true ∧ asc (ids d.2.2.1) = true ∧ asc (ids d.2.2.2.1) = true ∧ asc (ids d.2.2.2.2.1) = true) ∧ dupD d = false := by
  unfold formE at h
  split at h
  · cases h
  split at h
  · cases h
  split at h
  · cases h
  rename_i h1 h2 h3
  have h2 : inOrder d = true := by simpa using h2
  simp only [inOrder, Bool.and_eq_true] at h2
  exact ⟨by simpa using h1, ⟨h2.1.1.1.1, h2.1.1.1.2, h2.1.1.2, h2.1.2⟩, by simpa using h3⟩
theorem seamE_ok {d : TDesign} {s : TSeam} (h : seamE d s = 0) : (isId s.1 = true ∧ isId s.2.1 = true ∧ isId s.2.2.1 = true) ∧ s.2.1 ≠ s.2.2.1 ∧ (s.2.2.2.1 = 1 ∨ s.2.2.2.1 = 2) ∧ (1 ≤ s.2.2.2.2.1 ∧ s.2.2.2.2.1 ≤ 32768 ∧ 1 ≤ s.2.2.2.2.2 ∧ s.2.2.2.2.2 ≤ 3) ∧ (partOf d s.2.1).isSome = true ∧ (partOf d s.2.2.1).isSome = true := by
  unfold seamE at h
  split at h
  · cases h
  split at h
  · cases h
  split at h
  · cases h
  split at h
  · cases h
  split at h
  · cases h
  rename_i h1 h2 h3 h4 h5
  simp only [not_or, Option.isNone_iff_eq_none, Bool.not_eq_false] at h1 h5
  refine ⟨h1, h2, by omega, by omega, ?_, ?_⟩
  · cases h : partOf d s.2.1 with
    | none => exact absurd h h5.1
    | some _ => rfl
  · cases h : partOf d s.2.2.1 with
    | none => exact absurd h h5.2
    | some _ => rfl
/-- An identifier finds the element at its place, where no identifier is there twice. -/
theorem find_at {α : Type} : ∀ {l : List (ByteArray × α)}, (ids l).Nodup → ∀ (k : Nat) (h : k < l.length), l.find? (fun s => decide (s.1 = l[k].1)) = some l[k]
  | [], _, k, h => by cases h
  | a :: l, hn, 0, h => by simp
  | a :: l, hn, k + 1, h => by
    obtain ⟨h1, h2⟩ := List.pairwise_cons.1 (show (a.1 :: ids l).Nodup from hn)
    have hk : k < l.length := by simpa using h
    have hne : a.1 ≠ l[k].1 := h1 _ (List.mem_map.2 ⟨l[k], List.getElem_mem hk, rfl⟩)
    simp only [List.getElem_cons_succ]
    rw [List.find?_cons_of_neg (by simpa using hne)]
    exact find_at h2 k hk
theorem find_mem {α : Type} {l : List (ByteArray × α)} {id : ByteArray} {a : ByteArray × α} (h : l.find? (fun s => decide (s.1 = id)) = some a) : a ∈ l ∧ a.1 = id :=
  ⟨List.mem_of_find?_eq_some h, by have := List.find?_some h; simpa using this⟩
structure Valid (d : TDesign) (m : TMaterials) : Prop where
  light : light d 40 = true
  mat : matE m = 0
  nodes : (ids d.2.1).Nodup
  parts : (ids d.2.2.1).Nodup
  seams : (ids d.2.2.2.1).Nodup
  node : nodesE d = 0
  part : partsE d m = 0
  seam : ∀ s ∈ d.2.2.2.1, seamE d s = 0
  small : d.2.1.length ≤ 40 ∧ d.2.2.1.length ≤ 40 ∧ d.2.2.2.1.length ≤ 40
theorem valid_ok {d : TDesign} {m : TMaterials} (h : validE d m = true) : Valid d m := by
  simp only [validE, Bool.and_eq_true, decide_eq_true_eq] at h
  obtain ⟨⟨⟨h1, _⟩, _⟩, h2⟩ := h
  obtain ⟨c1, c2, c3, c4, c5, c6, c7, c8⟩ := chkF_ok h2
  obtain ⟨_, ⟨a1, a2, a3, a4⟩, _⟩ := formE_ok c3
  have h3 := h1
  simp only [Go.Pv.light, Bool.and_eq_true, decide_eq_true_eq] at h3
  exact ⟨h1, c1, asc_nodup a1, asc_nodup a2, asc_nodup a3, c4, c5, firstE_zero c6, by omega⟩
theorem light_up {d : TDesign} (h : light d 40 = true) : light d 100 = true := by
  simp only [light, Bool.and_eq_true, decide_eq_true_eq] at h ⊢
  omega
end Go.Pv
set_option linter.unusedSimpArgs false
set_option linter.unusedVariables false
set_option maxRecDepth 100000
namespace Go.Pv
open Go Go.Proofs
set_option maxRecDepth 100000
noncomputable def E_lawTwo : Env := Env.of [(7, .pure g_valid18), (11, .pure g_has18), (8, .pure g_awake18), (14, .pure g_touches), (15, .pure g_check)]
def H_lawTwo : FuncId → Hint := fun f => match f == 4 with | true => ⟨fun r => match r == 4 with | true => .inv [.val 5 false (.int .i64)] | false => match r == 8 with | true => .inv [.val 6 false (.int .i64), .val 7 false (.int .i64)] | false => .none, fun _ _ => none, fun _ => none⟩ | false => noHint
theorem Eok_lawTwo : EnvOk Tryz.prog E_lawTwo := EnvOk.cons (x := .pure g_valid18) fn_valid18 (EnvOk.cons (x := .pure g_has18) fn_has18 (EnvOk.cons (x := .pure g_awake18) fn_awake18 (EnvOk.cons (x := .pure g_touches) fn_touches (EnvOk.cons (x := .pure g_check) fn_check (EnvOk.nil _)))))
def F_lawTwo (a0 : TDesign) (a1 : TMaterials) (R : T → Prop) : Prop :=
 callK [(false, Sy.bool)]
 (g_valid18 [encV true yDesign a0, encV true yMaterials a1]) fun (y0 : Bool) =>
 iteP (!y0)
 (callK [(false, Sy.bool)] (g_awake18 []) fun (y1 : Bool) => R (T.v (Value.bool y1)))
 (loopK (Int × PUnit)
 (fun (X2 : Int × PUnit → Prop) (s3 : Int × PUnit) =>
 iteP (decide (s3.fst < (↑(List.map ySeam.enc a0.snd.snd.snd.fst).length : Int)))
 (loopK (Int × Int × PUnit)
 (fun (X4 : Int × Int × PUnit → Prop) (s5 : Int × Int × PUnit) =>
 iteP (decide (s5.snd.fst < (↑(List.map yPart.enc a0.snd.snd.fst).length : Int)))
 (rowsK yPart (List.map yPart.enc a0.snd.snd.fst) s5.snd.fst fun (y6 : TPart) =>
 callK [(false, Sy.str.li)]
 (g_touches [encV true yDesign a0, T.v (Value.string y6.fst)])
 fun (y7 : List ByteArray) =>
 rowsK ySeam (List.map ySeam.enc a0.snd.snd.snd.fst) s3.fst
 fun (y8 : TSeam) =>
 callK [(false, Sy.bool)]
 (g_has18
 [T.sl false (List.map Sy.str.enc y7), T.v (Value.string y8.fst)])
 fun (y9 : Bool) =>
 rowsK yPart (List.map yPart.enc a0.snd.snd.fst) s5.snd.fst
 fun (y10 : TPart) =>
 rowsK ySeam (List.map ySeam.enc a0.snd.snd.snd.fst) s3.fst
 fun (y11 : TSeam) =>
 iteP (decide (y10.fst = y11.snd.fst))
 (iteP (!decide (y9 = true)) (R (T.v (Value.bool false)))
 (iteP y9
 (X4 (IntKind.i64.wrap (s5.fst + 1), IntKind.i64.wrap (s5.snd.fst + 1), ()))
 (X4 (s5.fst, IntKind.i64.wrap (s5.snd.fst + 1), ()))))
 (rowsK yPart (List.map yPart.enc a0.snd.snd.fst) s5.snd.fst
 fun (y12 : TPart) =>
 rowsK ySeam (List.map ySeam.enc a0.snd.snd.snd.fst) s3.fst
 fun (y13 : TSeam) =>
 iteP (!decide (y9 = decide (y12.fst = y13.snd.snd.fst)))
 (R (T.v (Value.bool false)))
 (iteP y9
 (X4 (IntKind.i64.wrap (s5.fst + 1), IntKind.i64.wrap (s5.snd.fst + 1), ()))
 (X4 (s5.fst, IntKind.i64.wrap (s5.snd.fst + 1), ())))))
 (iteP (!decide (s5.fst = 2)) (R (T.v (Value.bool false)))
 (rowsK ySeam (List.map ySeam.enc a0.snd.snd.snd.fst) s3.fst
 fun (y14 : TSeam) =>
 callK [(false, Sy.int IntKind.i64)] (g_check [encV true ySeam y14])
 fun (y15 : Int) =>
 iteP (!decide (y15 = 0)) (R (T.v (Value.bool false)))
 (X2 (IntKind.i64.wrap (s3.fst + 1), ())))))
 (0, 0, ()))
 (callK [(false, Sy.bool)] (g_awake18 []) fun (y16 : Bool) =>
 R (T.v (Value.bool y16))))
 (0, ()))
theorem F_lawTwo_eq (a0 : TDesign) (a1 : TMaterials) (R : T → Prop) : sxTop stdC2 Tryz.prog E_lawTwo H_lawTwo 8 4 [encV true yDesign a0, encV true yMaterials a1] R = F_lawTwo a0 a1 R := by kernel_rfl
abbrev s_lawTwo : Sh := [(true, yDesign), (true, yMaterials)]
abbrev r_lawTwo : Sh := [(false, Sy.bool)]
theorem r_lawTwo_call (y : Sh.den r_lawTwo) (K : Sh.den r_lawTwo → Prop) : callK r_lawTwo (some (Sh.enc r_lawTwo y)) K = K y := callK_enc rfl y K

set_option maxRecDepth 100000
noncomputable def E_lawThin : Env := Env.of [(7, .pure g_valid18), (8, .pure g_awake18), (16, .pure g_thick), (17, .pure g_partD)]
def H_lawThin : FuncId → Hint := fun f => match f == 5 with | true => ⟨fun r => match r == 4 with | true => .inv [.val 5 false (.int .i64)] | false => .none, fun _ _ => none, fun _ => none⟩ | false => noHint
theorem Eok_lawThin : EnvOk Tryz.prog E_lawThin := EnvOk.cons (x := .pure g_valid18) fn_valid18 (EnvOk.cons (x := .pure g_awake18) fn_awake18 (EnvOk.cons (x := .pure g_thick) fn_thick (EnvOk.cons (x := .pure g_partD) fn_partD (EnvOk.nil _))))
def F_lawThin (a0 : TDesign) (a1 : TMaterials) (R : T → Prop) : Prop :=
 callK [(false, Sy.bool)]
 (g_valid18 [encV true yDesign a0, encV true yMaterials a1]) fun (y0 : Bool) =>
 iteP (!y0)
 (callK [(false, Sy.bool)] (g_awake18 []) fun (y1 : Bool) => R (T.v (Value.bool y1)))
 (loopK (Int × PUnit)
 (fun (X2 : Int × PUnit → Prop) (s3 : Int × PUnit) =>
 iteP (decide (s3.fst < (↑(List.map ySeam.enc a0.snd.snd.snd.fst).length : Int)))
 (rowsK ySeam (List.map ySeam.enc a0.snd.snd.snd.fst) s3.fst fun (y4 : TSeam) =>
 callK [(false, Sy.int IntKind.i64), (false, Sy.bool)]
 (g_thick
 [encV true yDesign a0, encV true yMaterials a1,
 T.v (Value.string y4.fst)])
 fun (y5 : Int × Bool) =>
 rowsK ySeam (List.map ySeam.enc a0.snd.snd.snd.fst) s3.fst fun (y6 : TSeam) =>
 callK [(true, yPart), (false, Sy.bool)]
 (g_partD [encV true yDesign a0, T.v (Value.string y6.snd.fst)])
 fun (y7 : TPart × Bool) =>
 rowsK ySeam (List.map ySeam.enc a0.snd.snd.snd.fst) s3.fst fun (y8 : TSeam) =>
 callK [(true, yPart), (false, Sy.bool)]
 (g_partD [encV true yDesign a0, T.v (Value.string y8.snd.snd.fst)])
 fun (y9 : TPart × Bool) =>
 iteP (!y5.snd) (R (T.v (Value.bool false)))
 (iteP (!y7.snd) (R (T.v (Value.bool false)))
 (iteP (!y9.snd) (R (T.v (Value.bool false)))
 (iteP (decide (y7.fst.snd.snd.fst = 4))
 (iteP (!decide (decide (y5.fst = 0) = decide (y9.fst.snd.snd.fst = 4)))
 (R (T.v (Value.bool false)))
 (iteP (decide (y7.fst.snd.snd.fst = 1))
 (iteP (decide (y7.fst.snd.snd.snd.snd.snd.fst < y5.fst))
 (R (T.v (Value.bool false)))
 (iteP (decide (y9.fst.snd.snd.fst = 1))
 (iteP (decide (y9.fst.snd.snd.snd.snd.snd.fst < y5.fst))
 (R (T.v (Value.bool false)))
 (X2 (IntKind.i64.wrap (s3.fst + 1), ())))
 (X2 (IntKind.i64.wrap (s3.fst + 1), ()))))
 (iteP (decide (y9.fst.snd.snd.fst = 1))
 (iteP (decide (y9.fst.snd.snd.snd.snd.snd.fst < y5.fst))
 (R (T.v (Value.bool false))) (X2 (IntKind.i64.wrap (s3.fst + 1), ())))
 (X2 (IntKind.i64.wrap (s3.fst + 1), ())))))
 (iteP (!decide (decide (y5.fst = 0) = false)) (R (T.v (Value.bool false)))
 (iteP (decide (y7.fst.snd.snd.fst = 1))
 (iteP (decide (y7.fst.snd.snd.snd.snd.snd.fst < y5.fst))
 (R (T.v (Value.bool false)))
 (iteP (decide (y9.fst.snd.snd.fst = 1))
 (iteP (decide (y9.fst.snd.snd.snd.snd.snd.fst < y5.fst))
 (R (T.v (Value.bool false)))
 (X2 (IntKind.i64.wrap (s3.fst + 1), ())))
 (X2 (IntKind.i64.wrap (s3.fst + 1), ()))))
 (iteP (decide (y9.fst.snd.snd.fst = 1))
 (iteP (decide (y9.fst.snd.snd.snd.snd.snd.fst < y5.fst))
 (R (T.v (Value.bool false))) (X2 (IntKind.i64.wrap (s3.fst + 1), ())))
 (X2 (IntKind.i64.wrap (s3.fst + 1), ())))))))))
 (callK [(false, Sy.bool)] (g_awake18 []) fun (y10 : Bool) =>
 R (T.v (Value.bool y10))))
 (0, ()))
theorem F_lawThin_eq (a0 : TDesign) (a1 : TMaterials) (R : T → Prop) : sxTop stdC2 Tryz.prog E_lawThin H_lawThin 8 5 [encV true yDesign a0, encV true yMaterials a1] R = F_lawThin a0 a1 R := by kernel_rfl
abbrev s_lawThin : Sh := [(true, yDesign), (true, yMaterials)]
abbrev r_lawThin : Sh := [(false, Sy.bool)]
theorem r_lawThin_call (y : Sh.den r_lawThin) (K : Sh.den r_lawThin → Prop) : callK r_lawThin (some (Sh.enc r_lawThin y)) K = K y := callK_enc rfl y K

theorem okD_inV {d : TDesign} (h : InS yDesign d) : okD d = true := by
  refine List.all_eq_true.2 fun p hp => ?_
  obtain ⟨_, _, ⟨_, _, h3⟩, _⟩ := h
  have h4 := h3 p hp
  obtain ⟨_, _, _, _, _, _, ⟨⟨h5, h6, _⟩, h7, h8, h9⟩, _⟩ := h4
  unfold okPart okShape okLen
  simp only [Bool.and_eq_true, decide_eq_true_eq, List.all_eq_true]
  refine ⟨⟨⟨?_, ?_⟩, ?_, ?_⟩, fun q hq => ?_⟩
  · exact h5
  · exact h6
  · exact h7
  · exact h8
  · obtain ⟨g1, g2, _⟩ := h9 q hq
    exact ⟨g1, g2⟩
/-! ### SeamTwo -/
theorem one_id {α : Type} {l : List (ByteArray × α)} (hn : (ids l).Nodup) {a b : ByteArray × α} (ha : a ∈ l) (hb : b ∈ l) (h : a.1 = b.1) : a = b := by
  obtain ⟨i, hi, rfl⟩ := List.mem_iff_getElem.1 ha
  obtain ⟨j, hj, rfl⟩ := List.mem_iff_getElem.1 hb
  have h1 := find_at hn i hi
  have h2 := find_at hn j hj
  rw [h, h2] at h1
  exact (Option.some.inj h1).symm
theorem mem_picks {d : TDesign} (hn : (ids d.2.2.2.1).Nodup) (c : TSeam → Bool) {s : TSeam} (hs : s ∈ d.2.2.2.1) : memB (picks d c) s.1 = c s := by
  rw [Bool.eq_iff_iff, memB_iff]
  unfold picks
  rw [List.mem_map]
  constructor
  · rintro ⟨s', h1, h2⟩
    obtain ⟨h3, h4⟩ := List.mem_filter.1 h1
    rw [one_id hn h3 hs h2] at h4
    exact h4
  · intro h
    exact ⟨s, List.mem_filter.2 ⟨hs, h⟩, rfl⟩
theorem count_or {α : Type} {a b : ByteArray} (hab : a ≠ b) : ∀ {l : List (ByteArray × α)}, (ids l).Nodup → (l.filter fun p => decide (a = p.1) || decide (b = p.1)).length = (memB (ids l) a).toNat + (memB (ids l) b).toNat
  | [], _ => rfl
  | p :: l, hn => by
    obtain ⟨h1, h2⟩ := List.pairwise_cons.1 (show (p.1 :: ids l).Nodup from hn)
    have ih := count_or hab h2
    have hnot : memB (ids l) p.1 = false := by
      rw [Bool.eq_false_iff]; intro h; exact h1 _ (memB_iff.1 h) rfl
    have hm : ∀ x, memB (ids (p :: l)) x = (decide (p.1 = x) || memB (ids l) x) := fun x => rfl
    rw [List.filter_cons, hm, hm]
    by_cases ha : a = p.1
    · have hb : ¬ b = p.1 := fun h => hab (ha.trans h.symm)
      have hb' : ¬ p.1 = b := fun h => hb h.symm
      rw [← ha] at hnot
      rw [if_pos (by rw [decide_eq_true ha]; rfl), List.length_cons, ih, hnot, decide_eq_true ha.symm, decide_eq_false hb']
      simp; omega
    · have ha' : ¬ p.1 = a := fun h => ha h.symm
      by_cases hb : b = p.1
      · rw [← hb] at hnot
        rw [if_pos (by rw [decide_eq_true hb, Bool.or_true]), List.length_cons, ih, hnot, decide_eq_true hb.symm, decide_eq_false ha']
        simp
      · have hb' : ¬ p.1 = b := fun h => hb h.symm
        rw [if_neg (by rw [decide_eq_false ha, decide_eq_false hb]; decide), ih, decide_eq_false ha', decide_eq_false hb']
        simp
theorem memB_find {α : Type} {l : List (ByteArray × α)} {id : ByteArray} (h : (l.find? fun s => decide (s.1 = id)).isSome = true) : memB (ids l) id = true := by
  obtain ⟨a, ha⟩ := Option.isSome_iff_exists.1 h
  obtain ⟨h1, h2⟩ := find_mem ha
  exact memB_iff.2 (List.mem_map.2 ⟨a, h1, h2⟩)
theorem two_parts {d : TDesign} (hn : (ids d.2.2.1).Nodup) {s : TSeam} (h : seamE d s = 0) : (d.2.2.1.filter fun p => touchC p.1 s).length = 2 := by
  obtain ⟨_, hab, _, _, ha, hb⟩ := seamE_ok h
  have := count_or hab hn
  rw [memB_find ha, memB_find hb] at this
  exact this
theorem seamErr_ok {d : TDesign} {s : TSeam} (h : seamE d s = 0) : seamErr s = 0 := by
  obtain ⟨⟨h1, h2, h3⟩, h4, h5, h6, _⟩ := seamE_ok h
  unfold seamErr tailErr
  simp only [h1, h2, h3]
  repeat' split
  all_goals first | rfl | omega | (exfalso; simp_all; done) | (exfalso; simp_all; omega)
def sp_lawTwo (x : TDesign × TMaterials) : Option T := onlyD x.1 (.v (.bool true))
noncomputable def g_lawTwo : List T → Option (T) := gS s_lawTwo sp_lawTwo
theorem g_lawTwo_at {a0 : TDesign} {a1 : TMaterials} : g_lawTwo [encV true yDesign a0, encV true yMaterials a1] = sp_lawTwo (a0, a1) := gS_enc (s := s_lawTwo) rfl (a0, a1) rfl
theorem g_lawTwo_op {u0 u1 u2 u3 u4 u5 u6 u7} : g_lawTwo [T.agg
    [T.v (Value.string u0), T.sl false (List.map yNode.enc u1),
      T.sl false (List.map yPart.enc u2),
      T.sl false (List.map ySeam.enc u3),
      T.sl false (List.map yPackage.enc u4),
      T.sl false (List.map yNeed.enc u5)],
  T.agg [T.sl false (List.map yGrade.enc u6), T.sl false (List.map ySection.enc u7)]] = sp_lawTwo ((u0, (u1, (u2, (u3, (u4, u5))))), (u6, u7)) := gS_enc (s := s_lawTwo) rfl ((u0, (u1, (u2, (u3, (u4, u5))))), (u6, u7)) rfl
theorem of_lawTwo (h : ∀ (a0 : TDesign) (a1 : TMaterials) (r : T), sp_lawTwo (a0, a1) = some r → BdSh s_lawTwo (a0, a1) → F_lawTwo a0 a1 (fun y => y = r)) : PureFn Tryz.prog 4 g_lawTwo :=
  pureFn_S (E := E_lawTwo) (Hs := H_lawTwo) Eok_lawTwo mixed' plain' (noHeap_of rfl) 8 ⟨_, _, Tryz.func4, rfl⟩ rfl fun x r h1 h2 => by
    obtain ⟨a0, a1⟩ := x
    rw [show Sh.encs s_lawTwo (a0, a1) = [encV true yDesign a0, encV true yMaterials a1] from rfl, F_lawTwo_eq]
    exact h a0 a1 r h1 h2

theorem fn_lawTwo : PureFn Tryz.prog 4 g_lawTwo := of_lawTwo fun d m r h hb => by
  obtain ⟨hok, rfl⟩ := onlyD_of h
  replace hok : okD d = true := hok
  unfold F_lawTwo
  refine callK_some (s := [(false, .bool)]) (y := validE d m) (g_valid18_at ..) ?_
  refine ifNB (fun hv => g_awake18_call' _ rfl) fun hv => ?_
  have V := valid_ok hv
  obtain ⟨l1, l2, l3⟩ := V.small
  refine loopK_ix d.2.2.2.1.length (fun k s => s.1 = (k : Int)) rfl ?_
  rintro X k ⟨i, u⟩ hk rfl hX
  dsimp only
  refine ifP (fun hlt => ?_) fun _ => g_awake18_call' _ rfl
  rw [List.length_map] at hlt
  have hlt : k < d.2.2.2.1.length := by omega
  have hmem := List.getElem_mem hlt
  have hse := V.seam _ hmem
  refine loopK_ix d.2.2.1.length (fun j s => s.2.1 = (j : Int) ∧ 0 ≤ s.1 ∧ s.1 + ((d.2.2.1.drop j).filter fun p => touchC p.1 d.2.2.2.1[k]).length = 2) ⟨rfl, by decide, by rw [List.drop_zero, two_parts V.parts hse]; rfl⟩ ?_
  rintro Y j ⟨n, i, u⟩ hj ⟨rfl, hn0, hn⟩ hY
  dsimp only at hn0 hn ⊢
  refine ifP (fun hjl => ?_) fun hjl => ?_
  · rw [List.length_map] at hjl
    have hjl : j < d.2.2.1.length := by omega
    have hw : IntKind.i64.wrap ((j : Int) + 1) = ((j + 1 : Nat) : Int) := wrap_id _ (by omega) (by omega)
    rw [List.drop_eq_getElem_cons hjl, List.filter_cons] at hn
    rw [rowsK_at (r := yPart) hjl]
    refine callK_some (s := [(false, .li .str)]) (y := picks d (touchC d.2.2.1[j].1)) ((g_touches_at ..).trans (onlyC_ok _ hok (light_up V.light))) ?_
    rw [rowsK_at (r := ySeam) hlt]
    refine callK_some (s := [(false, .bool)]) (y := touchC d.2.2.1[j].1 d.2.2.2.1[k]) (by rw [g_has18_at]; unfold sp_has18; dsimp only; rw [mem_picks V.seams _ hmem]; rfl) ?_
    rw [rowsK_at (r := yPart) hjl, rowsK_at (r := ySeam) hlt, rowsK_at (r := yPart) hjl, rowsK_at (r := ySeam) hlt]
    have fin : iteP (touchC d.2.2.1[j].1 d.2.2.2.1[k]) (Y (IntKind.i64.wrap (n + 1), IntKind.i64.wrap ((j : Int) + 1), ())) (Y (n, IntKind.i64.wrap ((j : Int) + 1), ())) := by
      refine ifB (fun h => ?_) fun h => ?_
      · rw [if_pos h, List.length_cons] at hn
        rw [wrap_id (n + 1) (by omega) (by omega), hw]
        exact hY _ hjl ⟨rfl, by show 0 ≤ n + 1; omega, by show n + 1 + _ = 2; omega⟩
      · rw [if_neg (by rw [h]; decide)] at hn
        rw [hw]
        exact hY _ hjl ⟨rfl, hn0, hn⟩
    refine ifP (fun h => ?_) fun h => ?_
    · refine ifQ (fun h2 => absurd ?_ h2) fun _ => fin
      unfold touchC; rw [decide_eq_true h.symm]; rfl
    · refine ifQ (fun h2 => absurd ?_ h2) fun _ => fin
      unfold touchC
      rw [decide_eq_false (fun h' => h h'.symm), Bool.false_or]
      exact decide_eq_decide.2 ⟨Eq.symm, Eq.symm⟩
  · rw [List.length_map] at hjl
    have : j = d.2.2.1.length := by omega
    subst this
    rw [List.drop_length] at hn
    have hn : n = 2 := by simpa using hn
    refine ifQ (fun h => absurd hn h) fun _ => ?_
    rw [rowsK_at (r := ySeam) hlt]
    refine callK_some (s := [(false, .int .i64)]) (y := seamErr d.2.2.2.1[k]) (g_check_at ..) ?_
    refine ifQ (fun h => absurd (seamErr_ok hse) h) fun _ => ?_
    refine hX _ hlt ?_
    show IntKind.i64.wrap ((k : Int) + 1) = _
    rw [wrap_id] <;> omega
/-! ### SeamThin -/
theorem secThick_pos (s : TSection) : 1 ≤ secThick s := by unfold secThick; split <;> omega
theorem part_ok {d : TDesign} {m : TMaterials} (V : Valid d m) {id : ByteArray} {p : TPart} (h : partOf d id = some p) : partE p m = 0 ∧ (nodeOf d (aNode p)).isSome = true := by
  have hp := V.part
  unfold partsE at hp
  have h0 : firstE (partNodeE d m) d.2.2.1 = 0 := by
    refine Classical.byContradiction fun hc => ?_
    rw [if_neg hc] at hp
    exact hc hp
  have h1 := firstE_zero h0 p (find_mem h).1
  unfold partNodeE at h1
  have h2 : partE p m = 0 := by
    refine Classical.byContradiction fun hc => ?_
    rw [if_neg hc] at h1
    exact hc h1
  rw [if_pos h2] at h1
  refine ⟨h2, ?_⟩
  cases hn : nodeOf d (aNode p) with
  | none => rw [hn] at h1; cases h1
  | some _ => rfl
theorem partE_ok {p : TPart} {m : TMaterials} (h : partE p m = 0) : (aKind p = 1 ∨ aKind p = 2 ∨ aKind p = 3 ∨ aKind p = 4) ∧ madeB p m = true := by
  unfold partE at h
  split at h
  · cases h
  split at h
  · cases h
  split at h
  · cases h
  split at h
  · cases h
  split at h
  · cases h
  rename_i h1 h2 h3 h4 h5
  exact ⟨Classical.byContradiction h3, by simpa using h5⟩
theorem thick0_ok {d : TDesign} {m : TMaterials} {id : ByteArray} {p : TPart} (h : partOf d id = some p) (hp : partE p m = 0) : (thick0 d m id).2 = true ∧ (aKind p = 4 → (thick0 d m id).1 = 0) ∧ (aKind p = 1 → (thick0 d m id).1 = aThick p) ∧ (¬ aKind p = 4 → 1 ≤ (thick0 d m id).1) := by
  obtain ⟨hk, hm⟩ := partE_ok hp
  unfold thick0
  rw [h]
  dsimp only
  unfold madeB at hm
  by_cases k1 : aKind p = 1
  · rw [if_pos (show pKind p = 1 from k1)]
    rw [if_neg (by omega)] at hm
    refine ⟨rfl, fun h => by omega, fun _ => rfl, fun _ => ?_⟩
    split at hm
    · cases hm
    · rw [if_pos k1] at hm
      simp only [Bool.and_eq_true, decide_eq_true_eq] at hm
      exact hm.2.1.1
  · rw [if_neg (show ¬ pKind p = 1 from k1)]
    by_cases k4 : aKind p = 4
    · rw [if_neg (by rintro (h | h); exact absurd (k4.symm.trans h) (by decide); exact absurd (k4.symm.trans h) (by decide))]
      exact ⟨decide_eq_true k4, fun _ => rfl, fun h => absurd h k1, fun h => absurd k4 h⟩
    · rw [if_pos (show pKind p = 2 ∨ pKind p = 3 by rcases hk with h | h | h | h; exact absurd h k1; exact .inl h; exact .inr h; exact absurd h k4)]
      rw [if_neg k4] at hm
      split at hm
      · cases hm
      · rw [if_neg k1] at hm
        simp only [Bool.and_eq_true] at hm
        have hs := hm.2
        unfold secOk at hs
        cases he : secOf m (aSec p) with
        | none => rw [he] at hs; cases hs
        | some s =>
          rw [he] at hs
          simp only [Bool.and_eq_true, decide_eq_true_eq] at hs
          dsimp only
          rw [if_neg (by omega)]
          exact ⟨rfl, fun h => absurd h k4, fun h => absurd h k1, fun _ => secThick_pos s⟩
theorem fitting_at {d : TDesign} {id : ByteArray} {p : TPart} (h : partOf d id = some p) : fitting d id = decide (aKind p = 4) := by unfold fitting; rw [h]
def sp_lawThin (x : TDesign × TMaterials) : Option T := onlyD x.1 (.v (.bool true))
noncomputable def g_lawThin : List T → Option (T) := gS s_lawThin sp_lawThin
theorem g_lawThin_at {a0 : TDesign} {a1 : TMaterials} : g_lawThin [encV true yDesign a0, encV true yMaterials a1] = sp_lawThin (a0, a1) := gS_enc (s := s_lawThin) rfl (a0, a1) rfl
theorem g_lawThin_op {u0 u1 u2 u3 u4 u5 u6 u7} : g_lawThin [T.agg
    [T.v (Value.string u0), T.sl false (List.map yNode.enc u1),
      T.sl false (List.map yPart.enc u2),
      T.sl false (List.map ySeam.enc u3),
      T.sl false (List.map yPackage.enc u4),
      T.sl false (List.map yNeed.enc u5)],
  T.agg [T.sl false (List.map yGrade.enc u6), T.sl false (List.map ySection.enc u7)]] = sp_lawThin ((u0, (u1, (u2, (u3, (u4, u5))))), (u6, u7)) := gS_enc (s := s_lawThin) rfl ((u0, (u1, (u2, (u3, (u4, u5))))), (u6, u7)) rfl
theorem of_lawThin (h : ∀ (a0 : TDesign) (a1 : TMaterials) (r : T), sp_lawThin (a0, a1) = some r → BdSh s_lawThin (a0, a1) → F_lawThin a0 a1 (fun y => y = r)) : PureFn Tryz.prog 5 g_lawThin :=
  pureFn_S (E := E_lawThin) (Hs := H_lawThin) Eok_lawThin mixed' plain' (noHeap_of rfl) 8 ⟨_, _, Tryz.func5, rfl⟩ rfl fun x r h1 h2 => by
    obtain ⟨a0, a1⟩ := x
    rw [show Sh.encs s_lawThin (a0, a1) = [encV true yDesign a0, encV true yMaterials a1] from rfl, F_lawThin_eq]
    exact h a0 a1 r h1 h2

theorem fn_lawThin : PureFn Tryz.prog 5 g_lawThin := of_lawThin fun d m r h hb => by
  obtain ⟨hok, rfl⟩ := onlyD_of h
  replace hok : okD d = true := hok
  unfold F_lawThin
  refine callK_some (s := [(false, .bool)]) (y := validE d m) (g_valid18_at ..) ?_
  refine ifNB (fun hv => g_awake18_call' _ rfl) fun hv => ?_
  have V := valid_ok hv
  obtain ⟨l1, l2, l3⟩ := V.small
  refine loopK_ix d.2.2.2.1.length (fun k s => s.1 = (k : Int)) rfl ?_
  rintro X k ⟨i, u⟩ hk rfl hX
  dsimp only
  refine ifP (fun hlt => ?_) fun _ => g_awake18_call' _ rfl
  rw [List.length_map] at hlt
  have hlt : k < d.2.2.2.1.length := by omega
  have hmem := List.getElem_mem hlt
  have hse := V.seam _ hmem
  obtain ⟨_, hab, _, _, ha, hb'⟩ := seamE_ok hse
  obtain ⟨pa, ha⟩ := Option.isSome_iff_exists.1 ha
  obtain ⟨pb, hb'⟩ := Option.isSome_iff_exists.1 hb'
  have hso : seamOf d d.2.2.2.1[k].1 = some d.2.2.2.1[k] := find_at V.seams k hlt
  rw [rowsK_at (r := ySeam) hlt]
  refine callK_some (s := [(false, .int .i64), (false, .bool)]) (y := thick d m d.2.2.2.1[k].1) ((g_thick_at ..).trans (onlyD_ok _ hok)) ?_
  rw [rowsK_at (r := ySeam) hlt]
  refine callK_some (s := [(true, yPart), (false, .bool)]) (y := (pa, true)) ((g_partD_at ..).trans (by unfold sp_partD; dsimp only; rw [hok]; unfold sp_part; dsimp only; rw [ha]; rfl)) ?_
  rw [rowsK_at (r := ySeam) hlt]
  refine callK_some (s := [(true, yPart), (false, .bool)]) (y := (pb, true)) ((g_partD_at ..).trans (by unfold sp_partD; dsimp only; rw [hok]; unfold sp_part; dsimp only; rw [hb']; rfl)) ?_
  obtain ⟨a1, a2, a3, a4⟩ := thick0_ok ha (part_ok V ha).1
  obtain ⟨b1, b2, b3, b4⟩ := thick0_ok hb' (part_ok V hb').1
  have go : X (IntKind.i64.wrap ((k : Int) + 1), ()) := hX _ hlt (by show IntKind.i64.wrap ((k : Int) + 1) = _; rw [wrap_id] <;> omega)
  have ht : (thick d m d.2.2.2.1[k].1).2 = true ∧ (((thick d m d.2.2.2.1[k].1).1 = 0) ↔ (aKind pa = 4 ∧ aKind pb = 4)) ∧ (aKind pa = 1 → (thick d m d.2.2.2.1[k].1).1 ≤ aThick pa) ∧ (aKind pb = 1 → (thick d m d.2.2.2.1[k].1).1 ≤ aThick pb) := by
    unfold thick
    rw [hso]
    dsimp only
    rw [if_pos ⟨a1, b1⟩, fitting_at ha, fitting_at hb']
    generalize thick0 d m d.2.2.2.1[k].2.1 = ta at *
    generalize thick0 d m d.2.2.2.1[k].2.2.1 = tb at *
    by_cases ka : aKind pa = 4
    · rw [if_pos (decide_eq_true ka)]
      refine ⟨rfl, ⟨fun h => ⟨ka, Classical.byContradiction fun hc => ?_⟩, fun h => b2 h.2⟩, fun h => by omega, fun h => by have := b3 h; omega⟩
      have := b4 hc
      dsimp only at h
      omega
    · rw [if_neg (by rw [decide_eq_false ka]; decide)]
      have h4 := a4 ka
      by_cases kb : aKind pb = 4
      · rw [if_pos (decide_eq_true kb)]
        exact ⟨rfl, ⟨fun h => by dsimp only at h; omega, fun h => absurd h.1 ka⟩, fun h => by have := a3 h; dsimp only; omega, fun h => by omega⟩
      · rw [if_neg (by rw [decide_eq_false kb]; decide)]
        have h5 := b4 kb
        refine ⟨rfl, ⟨fun h => ?_, fun h => absurd h.1 ka⟩, fun h => ?_, fun h => ?_⟩
        · dsimp only at h; split at h <;> omega
        · have := a3 h; dsimp only; split <;> omega
        · have := b3 h; dsimp only; split <;> omega
  obtain ⟨t1, t2, t3, t4⟩ := ht
  generalize thick d m d.2.2.2.1[k].1 = t at *
  rw [t1]
  dsimp only
  rw [Bool.not_true, iteP_f, iteP_f, iteP_f]
  have t3' : pa.snd.snd.fst = 1 → t.1 ≤ pa.snd.snd.snd.snd.snd.fst := t3
  have t4' : pb.snd.snd.fst = 1 → t.1 ≤ pb.snd.snd.snd.snd.snd.fst := t4
  have t2' : t.1 = 0 ↔ (pa.snd.snd.fst = 4 ∧ pb.snd.snd.fst = 4) := t2
  have tail : iteP (decide (pa.snd.snd.fst = 1))
      (iteP (decide (pa.snd.snd.snd.snd.snd.fst < t.1)) (T.v (Value.bool false) = T.v (.bool true))
        (iteP (decide (pb.snd.snd.fst = 1)) (iteP (decide (pb.snd.snd.snd.snd.snd.fst < t.1)) (T.v (Value.bool false) = T.v (.bool true)) (X (IntKind.i64.wrap ((k : Int) + 1), ()))) (X (IntKind.i64.wrap ((k : Int) + 1), ()))))
      (iteP (decide (pb.snd.snd.fst = 1)) (iteP (decide (pb.snd.snd.snd.snd.snd.fst < t.1)) (T.v (Value.bool false) = T.v (.bool true)) (X (IntKind.i64.wrap ((k : Int) + 1), ()))) (X (IntKind.i64.wrap ((k : Int) + 1), ()))) := by
    refine ifP (fun h1 => ifP (fun h => by have := t3' h1; omega) fun _ => ifP (fun h2 => ifP (fun h => by have := t4' h2; omega) fun _ => go) fun _ => go) fun _ => ifP (fun h2 => ifP (fun h => by have := t4' h2; omega) fun _ => go) fun _ => go
  refine ifP (fun h => ?_) fun h => ?_
  · refine ifQ (fun h2 => absurd ?_ h2) fun _ => tail
    exact decide_eq_decide.2 ⟨fun h' => (t2'.1 h').2, fun h' => t2'.2 ⟨h, h'⟩⟩
  · refine ifQ (fun h2 => absurd ?_ h2) fun _ => tail
    exact decide_eq_false fun h' => h (t2'.1 h').1
end Go.Pv
