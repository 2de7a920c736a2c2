/-
  Facts on the program that every function's file asks for.
  The seam, the part, the section with an identifier.
  The part with an identifier, as the program finds it; how thick a seam is.
  Words that several files share.
  How thick a seam is.
  The way from the block down to a part.
-/
import Derived.Test.YtgcdkgglcloniaaGreatDoorPki
import Derived.Test.YtgcdkgglcloniaaGreatDoorPty
import Derived.Test.YtgcdkgglcloniaaGreatDoorProg
import Derived.KernelRfl
set_option linter.unusedSimpArgs false
set_option linter.unusedVariables false
namespace Go.Pv
open Go Go.Proofs
theorem mixed' : Tryz.prog.follows .mixedOrders = true := by kernel_rfl
theorem plain' : plainNames Tryz.prog = true := by kernel_rfl
end Go.Pv
set_option linter.unusedSimpArgs false
set_option linter.unusedVariables false
set_option maxRecDepth 100000
namespace Go.Pv
open Go Go.Proofs

def seamOf (d : TDesign) (id : ByteArray) : Option TSeam := d.2.2.2.1.find? fun s => decide (s.1 = id)
def partOf (d : TDesign) (id : ByteArray) : Option TPart := d.2.2.1.find? fun s => decide (s.1 = id)
def nodeOf (d : TDesign) (id : ByteArray) : Option TNode := d.2.1.find? fun s => decide (s.1 = id)
def secOf (m : TMaterials) (n : ByteArray) : Option TSection := m.2.find? fun s => decide (s.1 = n)
def noSeam : TSeam := (⟨#[]⟩, ⟨#[]⟩, ⟨#[]⟩, 0, 0, 0)
def noNode : TNode := (⟨#[]⟩, 0, ⟨#[]⟩)
def noPart : TPart := (⟨#[]⟩, 0, 0, ⟨#[]⟩, ⟨#[]⟩, 0, ([], []), ⟨#[]⟩, 0, 0, (0, 0, 0), (0, 0, 0), 0)
def noSec : TSection := (⟨#[]⟩, 0, 0, 0)
def found {α : Type} (no : α) (o : Option α) : α × Bool := match o with
  | some s => (s, true)
  | none => (no, false)
def sp_seam (x : TDesign × ByteArray) : Option T := some (Sh.enc [(true, ySeam), (false, .bool)] (found noSeam (seamOf x.1 x.2)))
def sp_part (x : TDesign × ByteArray) : Option T := some (Sh.enc [(true, yPart), (false, .bool)] (found noPart (partOf x.1 x.2)))
def sp_node (x : TDesign × ByteArray) : Option T := some (Sh.enc [(true, yNode), (false, .bool)] (found noNode (nodeOf x.1 x.2)))
def sp_section (x : TMaterials × ByteArray) : Option T := some (Sh.enc [(true, ySection), (false, .bool)] (found noSec (secOf x.1 x.2)))
abbrev sp_seam17 := sp_seam
abbrev sp_part17 := sp_part
abbrev sp_node17 := sp_node

set_option maxRecDepth 100000
noncomputable def E_seam : Env := Env.of []
def H_seam : FuncId → Hint := fun f => match f == 23 with | true => ⟨fun r => match r == 2 with | true => .inv [.val 11 false (.int .i64), .fix 1] | false => .none, fun _ _ => none, fun _ => none⟩ | false => noHint
theorem Eok_seam : EnvOk Tryz.prog E_seam := EnvOk.nil _
def F_seam (a0 : TDesign) (a1 : ByteArray) (R : T → Prop) : Prop :=
 sameK
 (Box.rows false
 [[D.p (T.v (Value.string { data := #[] })), D.p (T.v (Value.string { data := #[] })),
 D.p (T.v (Value.string { data := #[] })), D.p (T.v (Value.int IntKind.i64 0)),
 D.p (T.v (Value.int IntKind.i64 0)), D.p (T.v (Value.int IntKind.i64 0))]])
 (Box.rows false
 [[D.p (T.v (Value.string { data := #[] })), D.p (T.v (Value.string { data := #[] })),
 D.p (T.v (Value.string { data := #[] })), D.p (T.v (Value.int IntKind.i64 0)),
 D.p (T.v (Value.int IntKind.i64 0)), D.p (T.v (Value.int IntKind.i64 0))]])
 (loopK (Int × PUnit × PUnit)
 (fun (X0 : Int × PUnit × PUnit → Prop) (s1 : Int × PUnit × PUnit) =>
 iteP (decide (s1.fst < (↑(List.map ySeam.enc a0.snd.snd.snd.fst).length : Int)))
 (rowsK ySeam (List.map ySeam.enc a0.snd.snd.snd.fst) s1.fst fun (y2 : TSeam) =>
 iteP (decide (y2.fst = a1))
 (R (T.tup [encV true ySeam y2, T.v (Value.bool true)]))
 (sameK
 (Box.rows false
 [[D.p (T.v (Value.string { data := #[] })),
 D.p (T.v (Value.string { data := #[] })),
 D.p (T.v (Value.string { data := #[] })),
 D.p (T.v (Value.int IntKind.i64 0)),
 D.p (T.v (Value.int IntKind.i64 0)),
 D.p (T.v (Value.int IntKind.i64 0))]])
 (Box.rows false
 [[D.p (T.v (Value.string { data := #[] })),
 D.p (T.v (Value.string { data := #[] })),
 D.p (T.v (Value.string { data := #[] })),
 D.p (T.v (Value.int IntKind.i64 0)),
 D.p (T.v (Value.int IntKind.i64 0)),
 D.p (T.v (Value.int IntKind.i64 0))]])
 (X0 (IntKind.i64.wrap (s1.fst + 1), (), ()))))
 (R
 (T.tup
 [T.agg
 [T.v (Value.string { data := #[] }), T.v (Value.string { data := #[] }),
 T.v (Value.string { data := #[] }), T.v (Value.int IntKind.i64 0),
 T.v (Value.int IntKind.i64 0), T.v (Value.int IntKind.i64 0)],
 T.v (Value.bool false)])))
 (0, (), ()))
theorem F_seam_eq (a0 : TDesign) (a1 : ByteArray) (R : T → Prop) : sxTop stdC2 Tryz.prog E_seam H_seam 8 23 [encV true yDesign a0, encV false Sy.str a1] R = F_seam a0 a1 R := by kernel_rfl
abbrev s_seam : Sh := [(true, yDesign), (false, Sy.str)]
abbrev r_seam : Sh := [(true, ySeam), (false, Sy.bool)]
theorem r_seam_call (y : Sh.den r_seam) (K : Sh.den r_seam → Prop) : callK r_seam (some (Sh.enc r_seam y)) K = K y := callK_enc rfl y K

noncomputable def g_seam : List T → Option (T) := gS s_seam sp_seam
theorem g_seam_at {a0 : TDesign} {a1 : ByteArray} : g_seam [encV true yDesign a0, T.v (Value.string a1)] = sp_seam (a0, a1) := gS_enc (s := s_seam) rfl (a0, a1) rfl
theorem g_seam_op {u0 u1 u2 u3 u4 u5 u6} : g_seam [T.agg
    [T.v (Value.string u0), T.sl false (List.map yNode.enc u1),
      T.sl false (List.map yPart.enc u2),
      T.sl false (List.map ySeam.enc u3),
      T.sl false (List.map yPackage.enc u4),
      T.sl false (List.map yNeed.enc u5)],
  T.v (Value.string u6)] = sp_seam ((u0, (u1, (u2, (u3, (u4, u5))))), u6) := gS_enc (s := s_seam) rfl ((u0, (u1, (u2, (u3, (u4, u5))))), u6) rfl
theorem of_seam (h : ∀ (a0 : TDesign) (a1 : ByteArray) (r : T), sp_seam (a0, a1) = some r → BdSh s_seam (a0, a1) → F_seam a0 a1 (fun y => y = r)) : PureFn Tryz.prog 23 g_seam :=
  pureFn_S (E := E_seam) (Hs := H_seam) Eok_seam mixed' plain' (noHeap_of rfl) 8 ⟨_, _, Tryz.func23, rfl⟩ rfl fun x r h1 h2 => by
    obtain ⟨a0, a1⟩ := x
    rw [show Sh.encs s_seam (a0, a1) = [encV true yDesign a0, encV false Sy.str a1] from rfl, F_seam_eq]
    exact h a0 a1 r h1 h2

theorem fn_seam : PureFn Tryz.prog 23 g_seam := of_seam fun d id r h hb => by
  have hl : d.2.2.2.1.length ≤ 2 ^ 47 := hb.1.2.2.2.1.1
  unfold F_seam
  rw [sameK_self]
  refine loopK_ix d.2.2.2.1.length (fun k s => s = ((k : Int), (), ()) ∧ (d.2.2.2.1.drop k).find? (fun s => decide (s.1 = id)) = seamOf d id) ⟨rfl, rfl⟩ ?_
  rintro X k s hk ⟨rfl, hf⟩ hX
  simp only [List.length_map, len_lt, sameK_self]
  by_cases hlt : k < d.2.2.2.1.length
  · rw [find_drop hlt] at hf
    simp only [hlt, decide_true, iteP, rowsK_at (r := ySeam) hlt]
    cases hc : decide (d.2.2.2.1[k].1 = id) with
    | true =>
      simp only [hc, if_true] at hf
      simp only [sp_seam, sp_seam, ← hf] at h
      cases h; rfl
    | false =>
      simp only [hc] at hf
      refine hX _ hlt ⟨?_, hf⟩
      simp only [Prod.mk.injEq, and_true]
      exact wrap_id _ (by omega) (by omega)
  · have : k = d.2.2.2.1.length := by omega
    subst this
    simp only [List.drop_length, List.find?_nil] at hf
    simp only [sp_seam, sp_seam, ← hf] at h
    simp only [hlt, decide_false, iteP]
    cases h; rfl
set_option maxRecDepth 100000
noncomputable def E_node : Env := Env.of []
def H_node : FuncId → Hint := fun f => match f == 26 with | true => ⟨fun r => match r == 2 with | true => .inv [.val 11 false (.int .i64), .fix 1] | false => .none, fun _ _ => none, fun _ => none⟩ | false => noHint
theorem Eok_node : EnvOk Tryz.prog E_node := EnvOk.nil _
def F_node (a0 : TDesign) (a1 : ByteArray) (R : T → Prop) : Prop :=
 sameK
 (Box.rows false
 [[D.p (T.v (Value.string { data := #[] })), D.p (T.v (Value.int IntKind.i64 0)),
 D.p (T.v (Value.string { data := #[] }))]])
 (Box.rows false
 [[D.p (T.v (Value.string { data := #[] })), D.p (T.v (Value.int IntKind.i64 0)),
 D.p (T.v (Value.string { data := #[] }))]])
 (loopK (Int × PUnit × PUnit)
 (fun (X0 : Int × PUnit × PUnit → Prop) (s1 : Int × PUnit × PUnit) =>
 iteP (decide (s1.fst < (↑(List.map yNode.enc a0.snd.fst).length : Int)))
 (rowsK yNode (List.map yNode.enc a0.snd.fst) s1.fst fun (y2 : TNode) =>
 iteP (decide (y2.fst = a1))
 (R (T.tup [encV true yNode y2, T.v (Value.bool true)]))
 (sameK
 (Box.rows false
 [[D.p (T.v (Value.string { data := #[] })),
 D.p (T.v (Value.int IntKind.i64 0)),
 D.p (T.v (Value.string { data := #[] }))]])
 (Box.rows false
 [[D.p (T.v (Value.string { data := #[] })),
 D.p (T.v (Value.int IntKind.i64 0)),
 D.p (T.v (Value.string { data := #[] }))]])
 (X0 (IntKind.i64.wrap (s1.fst + 1), (), ()))))
 (R
 (T.tup
 [T.agg
 [T.v (Value.string { data := #[] }), T.v (Value.int IntKind.i64 0),
 T.v (Value.string { data := #[] })],
 T.v (Value.bool false)])))
 (0, (), ()))
theorem F_node_eq (a0 : TDesign) (a1 : ByteArray) (R : T → Prop) : sxTop stdC2 Tryz.prog E_node H_node 8 26 [encV true yDesign a0, encV false Sy.str a1] R = F_node a0 a1 R := by kernel_rfl
abbrev s_node : Sh := [(true, yDesign), (false, Sy.str)]
abbrev r_node : Sh := [(true, yNode), (false, Sy.bool)]
theorem r_node_call (y : Sh.den r_node) (K : Sh.den r_node → Prop) : callK r_node (some (Sh.enc r_node y)) K = K y := callK_enc rfl y K

noncomputable def g_node : List T → Option (T) := gS s_node sp_node
theorem g_node_at {a0 : TDesign} {a1 : ByteArray} : g_node [encV true yDesign a0, T.v (Value.string a1)] = sp_node (a0, a1) := gS_enc (s := s_node) rfl (a0, a1) rfl
theorem g_node_op {u0 u1 u2 u3 u4 u5 u6} : g_node [T.agg
    [T.v (Value.string u0), T.sl false (List.map yNode.enc u1),
      T.sl false (List.map yPart.enc u2),
      T.sl false (List.map ySeam.enc u3),
      T.sl false (List.map yPackage.enc u4),
      T.sl false (List.map yNeed.enc u5)],
  T.v (Value.string u6)] = sp_node ((u0, (u1, (u2, (u3, (u4, u5))))), u6) := gS_enc (s := s_node) rfl ((u0, (u1, (u2, (u3, (u4, u5))))), u6) rfl
theorem of_node (h : ∀ (a0 : TDesign) (a1 : ByteArray) (r : T), sp_node (a0, a1) = some r → BdSh s_node (a0, a1) → F_node a0 a1 (fun y => y = r)) : PureFn Tryz.prog 26 g_node :=
  pureFn_S (E := E_node) (Hs := H_node) Eok_node mixed' plain' (noHeap_of rfl) 8 ⟨_, _, Tryz.func26, rfl⟩ rfl fun x r h1 h2 => by
    obtain ⟨a0, a1⟩ := x
    rw [show Sh.encs s_node (a0, a1) = [encV true yDesign a0, encV false Sy.str a1] from rfl, F_node_eq]
    exact h a0 a1 r h1 h2

theorem fn_node : PureFn Tryz.prog 26 g_node := of_node fun d id r h hb => by
  have hl : d.2.1.length ≤ 2 ^ 47 := hb.1.2.1.1
  unfold F_node
  rw [sameK_self]
  refine loopK_ix d.2.1.length (fun k s => s = ((k : Int), (), ()) ∧ (d.2.1.drop k).find? (fun s => decide (s.1 = id)) = nodeOf d id) ⟨rfl, rfl⟩ ?_
  rintro X k s hk ⟨rfl, hf⟩ hX
  simp only [List.length_map, len_lt, sameK_self]
  by_cases hlt : k < d.2.1.length
  · rw [find_drop hlt] at hf
    simp only [hlt, decide_true, iteP, rowsK_at (r := yNode) hlt]
    cases hc : decide (d.2.1[k].1 = id) with
    | true =>
      simp only [hc, if_true] at hf
      simp only [sp_node, sp_node, ← hf] at h
      cases h; rfl
    | false =>
      simp only [hc] at hf
      refine hX _ hlt ⟨?_, hf⟩
      simp only [Prod.mk.injEq, and_true]
      exact wrap_id _ (by omega) (by omega)
  · have : k = d.2.1.length := by omega
    subst this
    simp only [List.drop_length, List.find?_nil] at hf
    simp only [sp_node, sp_node, ← hf] at h
    simp only [hlt, decide_false, iteP]
    cases h; rfl
set_option maxRecDepth 100000
noncomputable def E_section : Env := Env.of []
def H_section : FuncId → Hint := fun f => match f == 76 with | true => ⟨fun r => match r == 2 with | true => .inv [.val 8 false (.int .i64)] | false => .none, fun _ _ => none, fun _ => none⟩ | false => noHint
theorem Eok_section : EnvOk Tryz.prog E_section := EnvOk.nil _
def F_section (a0 : TMaterials) (a1 : ByteArray) (R : T → Prop) : Prop :=
 loopK (Int × PUnit)
 (fun (X0 : Int × PUnit → Prop) (s1 : Int × PUnit) =>
 iteP (decide (s1.fst < (↑(List.map ySection.enc a0.snd).length : Int)))
 (rowsK ySection (List.map ySection.enc a0.snd) s1.fst fun (y2 : TSection) =>
 iteP (decide (y2.fst = a1))
 (iteP (decide (s1.fst < 0))
 (R
 (T.tup
 [T.agg
 [T.v (Value.string { data := #[] }), T.v (Value.int IntKind.i64 0),
 T.v (Value.int IntKind.i64 0), T.v (Value.int IntKind.i64 0)],
 T.v (Value.bool false)]))
 (rowsK ySection (List.map ySection.enc a0.snd) s1.fst fun (y3 : TSection) =>
 R (T.tup [encV true ySection y3, T.v (Value.bool true)])))
 (X0 (IntKind.i64.wrap (s1.fst + 1), ())))
 (R
 (T.tup
 [T.agg
 [T.v (Value.string { data := #[] }), T.v (Value.int IntKind.i64 0),
 T.v (Value.int IntKind.i64 0), T.v (Value.int IntKind.i64 0)],
 T.v (Value.bool false)])))
 (0, ())
theorem F_section_eq (a0 : TMaterials) (a1 : ByteArray) (R : T → Prop) : sxTop stdC2 Tryz.prog E_section H_section 8 54 [encV true yMaterials a0, encV false Sy.str a1] R = F_section a0 a1 R := by kernel_rfl
abbrev s_section : Sh := [(true, yMaterials), (false, Sy.str)]
abbrev r_section : Sh := [(true, ySection), (false, Sy.bool)]
theorem r_section_call (y : Sh.den r_section) (K : Sh.den r_section → Prop) : callK r_section (some (Sh.enc r_section y)) K = K y := callK_enc rfl y K

noncomputable def g_section : List T → Option (T) := gS s_section sp_section
theorem g_section_at {a0 : TMaterials} {a1 : ByteArray} : g_section [encV true yMaterials a0, T.v (Value.string a1)] = sp_section (a0, a1) := gS_enc (s := s_section) rfl (a0, a1) rfl
theorem g_section_op {u0 u1 u2} : g_section [T.agg [T.sl false (List.map yGrade.enc u0), T.sl false (List.map ySection.enc u1)],
  T.v (Value.string u2)] = sp_section ((u0, u1), u2) := gS_enc (s := s_section) rfl ((u0, u1), u2) rfl
theorem of_section (h : ∀ (a0 : TMaterials) (a1 : ByteArray) (r : T), sp_section (a0, a1) = some r → BdSh s_section (a0, a1) → F_section a0 a1 (fun y => y = r)) : PureFn Tryz.prog 54 g_section :=
  pureFn_S (E := E_section) (Hs := H_section) Eok_section mixed' plain' (noHeap_of rfl) 8 ⟨_, _, Tryz.func54, rfl⟩ rfl fun x r h1 h2 => by
    obtain ⟨a0, a1⟩ := x
    rw [show Sh.encs s_section (a0, a1) = [encV true yMaterials a0, encV false Sy.str a1] from rfl, F_section_eq]
    exact h a0 a1 r h1 h2

theorem fn_section : PureFn Tryz.prog 54 g_section := of_section fun m n r h hb => by
  have hl : m.2.length ≤ 2 ^ 47 := hb.1.2.1
  unfold F_section
  refine loopK_ix m.2.length (fun k s => s = ((k : Int), ()) ∧ (m.2.drop k).find? (fun s => decide (s.1 = n)) = secOf m n) ⟨rfl, rfl⟩ ?_
  rintro X k s hk ⟨rfl, hf⟩ hX
  simp only [List.length_map, len_lt]
  by_cases hlt : k < m.2.length
  · rw [find_drop hlt] at hf
    have h0 : ¬ ((k : Int) < 0) := by omega
    simp only [hlt, decide_true, iteP, rowsK_at (r := ySection) hlt, h0, decide_false]
    cases hc : decide (m.2[k].1 = n) with
    | true =>
      simp only [hc, if_true] at hf
      simp only [sp_section, ← hf] at h
      cases h; rfl
    | false =>
      simp only [hc] at hf
      refine hX _ hlt ⟨?_, hf⟩
      simp only [Prod.mk.injEq, and_true]
      exact wrap_id _ (by omega) (by omega)
  · have : k = m.2.length := by omega
    subst this
    simp only [List.drop_length, List.find?_nil] at hf
    simp only [sp_section, ← hf] at h
    simp only [hlt, decide_false, iteP]
    cases h; rfl
end Go.Pv
set_option linter.unusedSimpArgs false
set_option linter.unusedVariables false
set_option maxRecDepth 100000
namespace Go.Pv
open Go Go.Proofs

theorem cl_clonePt : CloneP Tryz.prog 37 2 16 := ⟨fun R => by kernel_rfl, fun fl R => by kernel_rfl, fun fl a rows R => by kernel_rfl⟩
noncomputable def g_clonePt : List T → Option T := gS [(false, .li yPoint)] (spCloneP yPoint 16)
theorem g_clonePt_at {u0} : g_clonePt [T.sl false (List.map (Sy.enc yPoint) u0)] = spCloneP yPoint 16 u0 := gS_enc (s := [(false, .li yPoint)]) rfl u0 rfl
theorem fn_clonePt : PureFn Tryz.prog 37 g_clonePt := cloneP_of mixed' plain' ⟨_, _, Tryz.func37, rfl⟩ cl_clonePt

theorem cl_clonePtt : CloneF Tryz.prog 38 1 24 := ⟨fun R => by kernel_rfl, fun fl R => by kernel_rfl, fun fl a rows R => by kernel_rfl⟩
noncomputable def g_clonePtt : List T → Option (List (List T)) := gS [(false, .li (.li yPoint))] (spClone (.li yPoint) 24)
theorem g_clonePtt_at {u0} : g_clonePtt [T.sl false (List.map (Sy.enc (.li yPoint)) u0)] = spClone (.li yPoint) 24 u0 := gS_enc (s := [(false, .li (.li yPoint))]) rfl u0 rfl
theorem fn_clonePtt : FreshFn Tryz.prog 38 g_clonePtt := cloneF_of mixed' plain' ⟨_, _, Tryz.func38, rfl⟩ cl_clonePtt

/-- A list that may be copied. -/
def okLen (b : Nat) (n : Nat) : Bool := decide (n * b ≤ 140737488355328) && decide (n ≤ 140737488355328)
def okShape (s : TShape) : Bool := okLen 16 s.1.length && okLen 24 s.2.length && s.2.all fun h => okLen 16 h.length
def okPart (p : TPart) : Bool := okShape p.2.2.2.2.2.2.1
def okD (d : TDesign) : Bool := d.2.2.1.all okPart
theorem spClone_ok {r : Sy} {b : Nat} {l : List r.den} (h : okLen b l.length = true) : spClone r b l = some (List.map r.enc l) := by
  unfold spClone; unfold okLen at h; rw [h]
def sp_partD (x : TDesign × ByteArray) : Option T := match okD x.1 with
  | true => sp_part x
  | false => none
set_option maxRecDepth 100000
noncomputable def E_partD : Env := Env.of [(37, .pure g_clonePt), (38, .fresh g_clonePtt)]
def H_partD : FuncId → Hint := fun f => match f == 17 with | true => ⟨fun r => match r == 2 with | true => .inv [.val 13 false (.int .i64), .fix 1] | false => match r == 7 with | true => .alt [.val 37 false (.int .i64), .arr 4 1 (.li yPoint)] [.val 37 false (.int .i64)] | false => .none, fun _ _ => none, fun _ => none⟩ | false => noHint
theorem Eok_partD : EnvOk Tryz.prog E_partD := EnvOk.cons (x := .pure g_clonePt) fn_clonePt (EnvOk.cons (x := .fresh g_clonePtt) fn_clonePtt (EnvOk.nil _))
def F_partD (a0 : TDesign) (a1 : ByteArray) (R : T → Prop) : Prop :=
 sameK
 (Box.rows false
 [[D.p (T.v (Value.string { data := #[] })), D.p (T.v (Value.int IntKind.i64 0)),
 D.p (T.v (Value.int IntKind.i64 0)), D.p (T.v (Value.string { data := #[] })),
 D.p (T.v (Value.string { data := #[] })), D.p (T.v (Value.int IntKind.i64 0)),
 D.p (T.v (Value.slice none 0 0)), D.p (T.v (Value.slice none 0 0)),
 D.p (T.v (Value.string { data := #[] })), D.p (T.v (Value.int IntKind.i64 0)),
 D.p (T.v (Value.int IntKind.i64 0)), D.p (T.v (Value.int IntKind.i64 0)),
 D.p (T.v (Value.int IntKind.i64 0)), D.p (T.v (Value.int IntKind.i64 0)),
 D.p (T.v (Value.int IntKind.i64 0)), D.p (T.v (Value.int IntKind.i64 0)),
 D.p (T.v (Value.int IntKind.i64 0)), D.p (T.v (Value.int IntKind.i64 0))]])
 (Box.rows false
 [[D.p (T.v (Value.string { data := #[] })), D.p (T.v (Value.int IntKind.i64 0)),
 D.p (T.v (Value.int IntKind.i64 0)), D.p (T.v (Value.string { data := #[] })),
 D.p (T.v (Value.string { data := #[] })), D.p (T.v (Value.int IntKind.i64 0)),
 D.p (T.v (Value.slice none 0 0)), D.p (T.v (Value.slice none 0 0)),
 D.p (T.v (Value.string { data := #[] })), D.p (T.v (Value.int IntKind.i64 0)),
 D.p (T.v (Value.int IntKind.i64 0)), D.p (T.v (Value.int IntKind.i64 0)),
 D.p (T.v (Value.int IntKind.i64 0)), D.p (T.v (Value.int IntKind.i64 0)),
 D.p (T.v (Value.int IntKind.i64 0)), D.p (T.v (Value.int IntKind.i64 0)),
 D.p (T.v (Value.int IntKind.i64 0)), D.p (T.v (Value.int IntKind.i64 0))]])
 (loopK (Int × PUnit × PUnit)
 (fun (X0 : Int × PUnit × PUnit → Prop) (s1 : Int × PUnit × PUnit) =>
 iteP (decide (s1.fst < (↑(List.map yPart.enc a0.snd.snd.fst).length : Int)))
 (rowsK yPart (List.map yPart.enc a0.snd.snd.fst) s1.fst fun (y2 : TPart) =>
 iteP (decide (y2.fst = a1))
 (callK [(false, yPoint.li)]
 (g_clonePt [T.sl false (List.map yPoint.enc y2.snd.snd.snd.snd.snd.snd.fst.fst)])
 fun (y3 : List TPoint) =>
 freshK yPoint.li
 (g_clonePtt [T.sl false (List.map yPoint.li.enc y2.snd.snd.snd.snd.snd.snd.fst.snd)])
 fun (y4 : List (List TPoint)) =>
 iteP y4.isEmpty
 (loopK (Int × PUnit)
 (fun (X5 : Int × PUnit → Prop) (s6 : Int × PUnit) =>
 iteP (decide (s6.fst < (↑0 : Int)))
 (rowsK yPoint.li [] s6.fst fun (y7 : List TPoint) =>
 callK [(false, yPoint.li)]
 (g_clonePt [T.sl false (List.map yPoint.enc y7)])
 fun (y8 : List TPoint) =>
 rowsK yPoint.li [] s6.fst fun (y9 : List TPoint) => badK 104)
 (R
 (T.tup
 [T.agg
 [T.v (Value.string y2.fst), T.v (Value.int IntKind.i64 y2.snd.fst),
 T.v (Value.int IntKind.i64 y2.snd.snd.fst),
 T.v (Value.string y2.snd.snd.snd.fst),
 T.v (Value.string y2.snd.snd.snd.snd.fst),
 T.v (Value.int IntKind.i64 y2.snd.snd.snd.snd.snd.fst),
 T.sl false (List.map yPoint.enc y3), T.sl false [],
 T.v (Value.string y2.snd.snd.snd.snd.snd.snd.snd.fst),
 T.v (Value.int IntKind.i64 y2.snd.snd.snd.snd.snd.snd.snd.snd.fst),
 T.v (Value.int IntKind.i64 y2.snd.snd.snd.snd.snd.snd.snd.snd.snd.fst),
 T.v
 (Value.int IntKind.i64 y2.snd.snd.snd.snd.snd.snd.snd.snd.snd.snd.fst.fst),
 T.v
 (Value.int IntKind.i64
 y2.snd.snd.snd.snd.snd.snd.snd.snd.snd.snd.fst.snd.fst),
 T.v
 (Value.int IntKind.i64
 y2.snd.snd.snd.snd.snd.snd.snd.snd.snd.snd.fst.snd.snd),
 T.v
 (Value.int IntKind.i64
 y2.snd.snd.snd.snd.snd.snd.snd.snd.snd.snd.snd.fst.fst),
 T.v
 (Value.int IntKind.i64
 y2.snd.snd.snd.snd.snd.snd.snd.snd.snd.snd.snd.fst.snd.fst),
 T.v
 (Value.int IntKind.i64
 y2.snd.snd.snd.snd.snd.snd.snd.snd.snd.snd.snd.fst.snd.snd),
 T.v
 (Value.int IntKind.i64 y2.snd.snd.snd.snd.snd.snd.snd.snd.snd.snd.snd.snd)],
 T.v (Value.bool true)])))
 (0, ()))
 (decK yPoint.li (List.map yPoint.li.enc y4) fun (y10 : List (List TPoint)) =>
 loopK (Int × List (List TPoint) × PUnit)
 (fun (X11 : Int × List (List TPoint) × PUnit → Prop)
 (s12 : Int × List (List TPoint) × PUnit) =>
 iteP (decide (s12.fst < (↑(List.map yPoint.li.enc y4).length : Int)))
 (rowsK yPoint.li (List.map yPoint.li.enc s12.snd.fst) s12.fst
 fun (y13 : List TPoint) =>
 partK yPoint.li (List.map yPoint.li.enc s12.snd.fst) (Int.toNat s12.fst) 0
 fun (y14 : List TPoint) =>
 callK [(false, yPoint.li)]
 (g_clonePt [T.sl false (List.map yPoint.enc y14)])
 fun (y15 : List TPoint) =>
 rowsK yPoint.li (List.map yPoint.li.enc s12.snd.fst) s12.fst
 fun (y16 : List TPoint) =>
 rowK (List.map yPoint.li.enc s12.snd.fst) (Int.toNat s12.fst)
 fun (y17 : List T) =>
 reqK (decide (1 ≤ y17.length))
 (decK yPoint.li
 ((List.map yPoint.li.enc s12.snd.fst).set (Int.toNat s12.fst)
 (splice y17 0 [T.sl false (List.map yPoint.enc y15)]))
 fun (y18 : List (List TPoint)) =>
 X11 (IntKind.i64.wrap (s12.fst + 1), y18, ())))
 (R
 (T.tup
 [T.agg
 [T.v (Value.string y2.fst),
 T.v (Value.int IntKind.i64 y2.snd.fst),
 T.v (Value.int IntKind.i64 y2.snd.snd.fst),
 T.v (Value.string y2.snd.snd.snd.fst),
 T.v (Value.string y2.snd.snd.snd.snd.fst),
 T.v (Value.int IntKind.i64 y2.snd.snd.snd.snd.snd.fst),
 T.sl false (List.map yPoint.enc y3),
 T.sl false (List.map yPoint.li.enc s12.snd.fst),
 T.v (Value.string y2.snd.snd.snd.snd.snd.snd.snd.fst),
 T.v (Value.int IntKind.i64 y2.snd.snd.snd.snd.snd.snd.snd.snd.fst),
 T.v (Value.int IntKind.i64 y2.snd.snd.snd.snd.snd.snd.snd.snd.snd.fst),
 T.v
 (Value.int IntKind.i64 y2.snd.snd.snd.snd.snd.snd.snd.snd.snd.snd.fst.fst),
 T.v
 (Value.int IntKind.i64
 y2.snd.snd.snd.snd.snd.snd.snd.snd.snd.snd.fst.snd.fst),
 T.v
 (Value.int IntKind.i64
 y2.snd.snd.snd.snd.snd.snd.snd.snd.snd.snd.fst.snd.snd),
 T.v
 (Value.int IntKind.i64
 y2.snd.snd.snd.snd.snd.snd.snd.snd.snd.snd.snd.fst.fst),
 T.v
 (Value.int IntKind.i64
 y2.snd.snd.snd.snd.snd.snd.snd.snd.snd.snd.snd.fst.snd.fst),
 T.v
 (Value.int IntKind.i64
 y2.snd.snd.snd.snd.snd.snd.snd.snd.snd.snd.snd.fst.snd.snd),
 T.v
 (Value.int IntKind.i64 y2.snd.snd.snd.snd.snd.snd.snd.snd.snd.snd.snd.snd)],
 T.v (Value.bool true)])))
 (0, y10, ())))
 (sameK
 (Box.rows false
 [[D.p (T.v (Value.string { data := #[] })),
 D.p (T.v (Value.int IntKind.i64 0)),
 D.p (T.v (Value.int IntKind.i64 0)),
 D.p (T.v (Value.string { data := #[] })),
 D.p (T.v (Value.string { data := #[] })),
 D.p (T.v (Value.int IntKind.i64 0)),
 D.p (T.v (Value.slice none 0 0)), D.p (T.v (Value.slice none 0 0)),
 D.p (T.v (Value.string { data := #[] })),
 D.p (T.v (Value.int IntKind.i64 0)),
 D.p (T.v (Value.int IntKind.i64 0)),
 D.p (T.v (Value.int IntKind.i64 0)),
 D.p (T.v (Value.int IntKind.i64 0)),
 D.p (T.v (Value.int IntKind.i64 0)),
 D.p (T.v (Value.int IntKind.i64 0)),
 D.p (T.v (Value.int IntKind.i64 0)),
 D.p (T.v (Value.int IntKind.i64 0)),
 D.p (T.v (Value.int IntKind.i64 0))]])
 (Box.rows false
 [[D.p (T.v (Value.string { data := #[] })),
 D.p (T.v (Value.int IntKind.i64 0)),
 D.p (T.v (Value.int IntKind.i64 0)),
 D.p (T.v (Value.string { data := #[] })),
 D.p (T.v (Value.string { data := #[] })),
 D.p (T.v (Value.int IntKind.i64 0)),
 D.p (T.v (Value.slice none 0 0)), D.p (T.v (Value.slice none 0 0)),
 D.p (T.v (Value.string { data := #[] })),
 D.p (T.v (Value.int IntKind.i64 0)),
 D.p (T.v (Value.int IntKind.i64 0)),
 D.p (T.v (Value.int IntKind.i64 0)),
 D.p (T.v (Value.int IntKind.i64 0)),
 D.p (T.v (Value.int IntKind.i64 0)),
 D.p (T.v (Value.int IntKind.i64 0)),
 D.p (T.v (Value.int IntKind.i64 0)),
 D.p (T.v (Value.int IntKind.i64 0)),
 D.p (T.v (Value.int IntKind.i64 0))]])
 (X0 (IntKind.i64.wrap (s1.fst + 1), (), ()))))
 (R
 (T.tup
 [T.agg
 [T.v (Value.string { data := #[] }), T.v (Value.int IntKind.i64 0),
 T.v (Value.int IntKind.i64 0), T.v (Value.string { data := #[] }),
 T.v (Value.string { data := #[] }), T.v (Value.int IntKind.i64 0),
 T.sl false [], T.sl false [], T.v (Value.string { data := #[] }),
 T.v (Value.int IntKind.i64 0), T.v (Value.int IntKind.i64 0),
 T.v (Value.int IntKind.i64 0), T.v (Value.int IntKind.i64 0),
 T.v (Value.int IntKind.i64 0), T.v (Value.int IntKind.i64 0),
 T.v (Value.int IntKind.i64 0), T.v (Value.int IntKind.i64 0),
 T.v (Value.int IntKind.i64 0)],
 T.v (Value.bool false)])))
 (0, (), ()))
theorem F_partD_eq (a0 : TDesign) (a1 : ByteArray) (R : T → Prop) : sxTop stdC2 Tryz.prog E_partD H_partD 8 17 [encV true yDesign a0, encV false Sy.str a1] R = F_partD a0 a1 R := by kernel_rfl
abbrev s_partD : Sh := [(true, yDesign), (false, Sy.str)]
abbrev r_partD : Sh := [(true, yPart), (false, Sy.bool)]
theorem r_partD_call (y : Sh.den r_partD) (K : Sh.den r_partD → Prop) : callK r_partD (some (Sh.enc r_partD y)) K = K y := callK_enc rfl y K

noncomputable def g_partD : List T → Option (T) := gS s_partD sp_partD
theorem g_partD_at {a0 : TDesign} {a1 : ByteArray} : g_partD [encV true yDesign a0, T.v (Value.string a1)] = sp_partD (a0, a1) := gS_enc (s := s_partD) rfl (a0, a1) rfl
theorem g_partD_op {u0 u1 u2 u3 u4 u5 u6} : g_partD [T.agg
    [T.v (Value.string u0), T.sl false (List.map yNode.enc u1),
      T.sl false (List.map yPart.enc u2),
      T.sl false (List.map ySeam.enc u3),
      T.sl false (List.map yPackage.enc u4),
      T.sl false (List.map yNeed.enc u5)],
  T.v (Value.string u6)] = sp_partD ((u0, (u1, (u2, (u3, (u4, u5))))), u6) := gS_enc (s := s_partD) rfl ((u0, (u1, (u2, (u3, (u4, u5))))), u6) rfl
theorem of_partD (h : ∀ (a0 : TDesign) (a1 : ByteArray) (r : T), sp_partD (a0, a1) = some r → BdSh s_partD (a0, a1) → F_partD a0 a1 (fun y => y = r)) : PureFn Tryz.prog 17 g_partD :=
  pureFn_S (E := E_partD) (Hs := H_partD) Eok_partD mixed' plain' (noHeap_of rfl) 8 ⟨_, _, Tryz.func17, rfl⟩ rfl fun x r h1 h2 => by
    obtain ⟨a0, a1⟩ := x
    rw [show Sh.encs s_partD (a0, a1) = [encV true yDesign a0, encV false Sy.str a1] from rfl, F_partD_eq]
    exact h a0 a1 r h1 h2

theorem fn_partD : PureFn Tryz.prog 17 g_partD := of_partD fun d id r h hb => by
  have hl : d.2.2.1.length ≤ 2 ^ 47 := hb.1.2.2.1.1
  unfold sp_partD at h
  split at h
  · rename_i hok
    unfold F_partD
    rw [sameK_self]
    refine loopK_ix d.2.2.1.length (fun k s => s = ((k : Int), (), ()) ∧ (d.2.2.1.drop k).find? (fun s => decide (s.1 = id)) = partOf d id) ⟨rfl, rfl⟩ ?_
    rintro X k s hk ⟨rfl, hf⟩ hX
    simp only [List.length_map, len_lt, sameK_self]
    by_cases hlt : k < d.2.2.1.length
    · rw [find_drop hlt] at hf
      have hp : okPart d.2.2.1[k] = true := List.all_eq_true.1 hok _ (List.getElem_mem hlt)
      simp only [hlt, decide_true, iteP, rowsK_at (r := yPart) hlt]
      generalize d.2.2.1[k] = p at *
      unfold okPart okShape at hp
      simp only [Bool.and_eq_true] at hp
      obtain ⟨⟨hp1, hp2⟩, hp3⟩ := hp
      cases hc : decide (p.1 = id) with
      | true =>
        simp only [hc, if_true] at hf
        simp only [sp_part, ← hf] at h
        cases h
        simp only []
        refine callK_some (s := [(false, yPoint.li)]) (y := p.2.2.2.2.2.2.1.1) (by rw [g_clonePt_at, spCloneP, spClone_ok hp1]; rfl) ?_
        refine freshK_at (r := .li yPoint) (l := p.2.2.2.2.2.2.1.2) (by rw [g_clonePtt_at, spClone_ok hp2]) _ ?_
        obtain ⟨p1, p2, p3, p4, p5, p6, ⟨o, hs⟩, p7⟩ := p
        have hb47 : hs.length ≤ 140737488355328 := by
          simp only [okLen, Bool.and_eq_true, decide_eq_true_eq] at hp2; exact hp2.2
        cases hs with
        | nil =>
          simp only [List.isEmpty_nil]
          refine loopK_ix 0 (fun k s => s = ((k : Int), ())) rfl ?_
          rintro X k s hk rfl hX
          have : k = 0 := by omega
          subst this
          rfl
        | cons h0 hs =>
          generalize hhs : h0 :: hs = hh at *
          have he : hh.isEmpty = false := by rw [← hhs]; rfl
          simp only [he]
          rw [decK_map (r := .li yPoint) rfl]
          refine loopK_ix hh.length (fun k s => s = ((k : Int), hh, ())) rfl ?_
          rintro X k s hk rfl hX
          simp only [List.length_map, len_lt]
          by_cases hlt : k < hh.length
          · have hok : okLen 16 hh[k].length = true := List.all_eq_true.1 hp3 _ (List.getElem_mem hlt)
            simp only [hlt, decide_true, Int.toNat_natCast, rowsK_at (r := .li yPoint) hlt, partK_at (r := .li yPoint) hlt, rowK_at (r := .li yPoint) hlt]
            refine callK_some (s := [(false, yPoint.li)]) (y := hh[k]) (by rw [g_clonePt_at, spCloneP, spClone_ok hok]; rfl) ?_
            refine ⟨rfl, ?_⟩
            have e : splice (Sy.enc (.li yPoint) hh[k]) 0 [T.sl false (List.map yPoint.enc hh[k])] = Sy.enc (.li yPoint) hh[k] := rfl
            rw [e, set_self (r := .li yPoint) hlt, decK_map (r := .li yPoint) rfl]
            refine hX _ hlt ?_
            simp only [Prod.mk.injEq, and_true]
            exact wrap_id _ (by omega) (by omega)
          · simp only [hlt, decide_false]
            rfl
      | false =>
        simp only [hc] at hf
        refine hX _ hlt ⟨?_, hf⟩
        simp only [Prod.mk.injEq, and_true]
        exact wrap_id _ (by omega) (by omega)
    · have : k = d.2.2.1.length := by omega
      subst this
      simp only [List.drop_length, List.find?_nil] at hf
      simp only [sp_part, ← hf] at h
      simp only [hlt, decide_false, iteP]
      cases h; rfl
  · cases h
end Go.Pv
set_option linter.unusedSimpArgs false
set_option linter.unusedVariables false
set_option maxRecDepth 100000
namespace Go.Pv
open Go Go.Proofs
abbrev pKind (p : TPart) : Int := p.2.2.1
abbrev pNode (p : TPart) : ByteArray := p.2.2.2.1
abbrev pThick (p : TPart) : Int := p.2.2.2.2.2.1
abbrev pSec (p : TPart) : ByteArray := p.2.2.2.2.2.2.2.1
def onlyD (d : TDesign) (t : T) : Option T := match okD d with
  | true => some t
  | false => none
abbrev r_ib : Sh := [(false, .int .i64), (false, .bool)]
abbrev r_b : Sh := [(false, .bool)]
theorem onlyD_of {d : TDesign} {t r : T} (h : onlyD d t = some r) : okD d = true ∧ r = t := by
  unfold onlyD at h; split at h
  · cases h; exact ⟨by assumption, rfl⟩
  · cases h
theorem onlyD_ok {d : TDesign} (t : T) (h : okD d = true) : onlyD d t = some t := by unfold onlyD; rw [h]
theorem iteP_yes {p : Prop} {i : Decidable p} (h : p) {A B : Prop} (ha : A) : iteP (@decide p i) A B := by rw [show @decide p i = true from decide_eq_true h]; exact ha
theorem iteP_no {p : Prop} {i : Decidable p} (h : ¬ p) {A B : Prop} (hb : B) : iteP (@decide p i) A B := by rw [show @decide p i = false from decide_eq_false h]; exact hb
theorem iteP_nyes {p : Prop} {i : Decidable p} (h : p) {A B : Prop} (hb : B) : iteP (!(@decide p i)) A B := by rw [show @decide p i = true from decide_eq_true h]; exact hb
theorem iteP_nno {p : Prop} {i : Decidable p} (h : ¬ p) {A B : Prop} (ha : A) : iteP (!(@decide p i)) A B := by rw [show @decide p i = false from decide_eq_false h]; exact ha
end Go.Pv
set_option linter.unusedSimpArgs false
set_option linter.unusedVariables false
set_option maxRecDepth 100000
namespace Go.Pv
open Go Go.Proofs

def secThick (s : TSection) : Int := if 1 < IntKind.i64.wrap (s.2.1.tdiv s.2.2.1) then IntKind.i64.wrap (s.2.1.tdiv s.2.2.1) else 1
/-- The thickness of a part, and whether it has one. -/
def thick0 (d : TDesign) (m : TMaterials) (id : ByteArray) : Int × Bool :=
  match partOf d id with
  | none => (0, false)
  | some p =>
    if pKind p = 1 then (pThick p, true)
    else if pKind p = 2 ∨ pKind p = 3 then
      match secOf m (pSec p) with
      | none => (0, false)
      | some s => if s.2.2.1 < 1 then (0, false) else (secThick s, true)
    else (0, decide (pKind p = 4))
def fitting (d : TDesign) (id : ByteArray) : Bool := match partOf d id with
  | some p => decide (pKind p = 4)
  | none => false
def thick (d : TDesign) (m : TMaterials) (id : ByteArray) : Int × Bool :=
  match seamOf d id with
  | none => (0, false)
  | some s =>
    if (thick0 d m s.2.1).2 = true ∧ (thick0 d m s.2.2.1).2 = true then
      if fitting d s.2.1 = true then ((thick0 d m s.2.2.1).1, true)
      else if fitting d s.2.2.1 = true then ((thick0 d m s.2.1).1, true)
      else (if (thick0 d m s.2.2.1).1 < (thick0 d m s.2.1).1 then (thick0 d m s.2.2.1).1 else (thick0 d m s.2.1).1, true)
    else (0, false)
def sp_thick0 (x : TDesign × TMaterials × ByteArray) : Option T := onlyD x.1 (Sh.enc r_ib (thick0 x.1 x.2.1 x.2.2))
def sp_fitting (x : TDesign × ByteArray) : Option T := onlyD x.1 (Sh.enc r_b (fitting x.1 x.2))
def sp_thick (x : TDesign × TMaterials × ByteArray) : Option T := onlyD x.1 (Sh.enc r_ib (thick x.1 x.2.1 x.2.2))
abbrev sp_thick018 := sp_thick0
abbrev sp_fitting18 := sp_fitting
abbrev sp_thick18 := sp_thick
def light (d : TDesign) (n : Int) : Bool := decide ((d.2.1.length : Int) ≤ n) && decide ((d.2.2.1.length : Int) ≤ n) && decide ((d.2.2.2.1.length : Int) ≤ n)
def sp_light (x : TDesign × Int) : Option T := some (Sh.enc r_b (light x.1 x.2))

set_option maxRecDepth 100000
noncomputable def E_light : Env := Env.of []
def H_light : FuncId → Hint := fun _ => noHint
theorem Eok_light : EnvOk Tryz.prog E_light := EnvOk.nil _
def F_light (a0 : TDesign) (a1 : Int) (R : T → Prop) : Prop :=
 iteP (decide ((↑(List.map yNode.enc a0.snd.fst).length : Int) ≤ a1))
 (iteP (decide ((↑(List.map yPart.enc a0.snd.snd.fst).length : Int) ≤ a1))
 (R (T.v (Value.bool (decide ((↑(List.map ySeam.enc a0.snd.snd.snd.fst).length : Int) ≤ a1)))))
 (R (T.v (Value.bool false))))
 (R (T.v (Value.bool false)))
theorem F_light_eq (a0 : TDesign) (a1 : Int) (R : T → Prop) : sxTop stdC2 Tryz.prog E_light H_light 8 19 [encV true yDesign a0, encV false (Sy.int IntKind.i64) a1] R = F_light a0 a1 R := by kernel_rfl
abbrev s_light : Sh := [(true, yDesign), (false, (Sy.int IntKind.i64))]
abbrev r_light : Sh := [(false, Sy.bool)]
theorem r_light_call (y : Sh.den r_light) (K : Sh.den r_light → Prop) : callK r_light (some (Sh.enc r_light y)) K = K y := callK_enc rfl y K

noncomputable def g_light : List T → Option (T) := gS s_light sp_light
theorem g_light_at {a0 : TDesign} {a1 : Int} : g_light [encV true yDesign a0, T.v (Value.int IntKind.i64 a1)] = sp_light (a0, a1) := gS_enc (s := s_light) rfl (a0, a1) rfl
theorem g_light_op {u0 u1 u2 u3 u4 u5 u6} : g_light [T.agg
    [T.v (Value.string u0), T.sl false (List.map yNode.enc u1),
      T.sl false (List.map yPart.enc u2),
      T.sl false (List.map ySeam.enc u3),
      T.sl false (List.map yPackage.enc u4),
      T.sl false (List.map yNeed.enc u5)],
  T.v (Value.int IntKind.i64 u6)] = sp_light ((u0, (u1, (u2, (u3, (u4, u5))))), u6) := gS_enc (s := s_light) rfl ((u0, (u1, (u2, (u3, (u4, u5))))), u6) rfl
theorem of_light (h : ∀ (a0 : TDesign) (a1 : Int) (r : T), sp_light (a0, a1) = some r → BdSh s_light (a0, a1) → F_light a0 a1 (fun y => y = r)) : PureFn Tryz.prog 19 g_light :=
  pureFn_S (E := E_light) (Hs := H_light) Eok_light mixed' plain' (noHeap_of rfl) 8 ⟨_, _, Tryz.func19, rfl⟩ rfl fun x r h1 h2 => by
    obtain ⟨a0, a1⟩ := x
    rw [show Sh.encs s_light (a0, a1) = [encV true yDesign a0, encV false (Sy.int IntKind.i64) a1] from rfl, F_light_eq]
    exact h a0 a1 r h1 h2

theorem fn_light : PureFn Tryz.prog 19 g_light := of_light fun d n r h hb => by
  cases h
  unfold F_light
  simp only [List.length_map, iteP_def, Sh.enc, encV, Sy.enc, hdT, light]
  by_cases h1 : (d.2.1.length : Int) ≤ n <;> by_cases h2 : (d.2.2.1.length : Int) ≤ n <;> simp [h1, h2]
end Go.Pv
set_option linter.unusedSimpArgs false
set_option linter.unusedVariables false
set_option maxRecDepth 100000
namespace Go.Pv
open Go Go.Proofs

/-- The nodes from a node up to its block. -/
def upF (d : TDesign) : Nat → ByteArray → List ByteArray → List ByteArray × Bool
  | 0, _, _ => ([], false)
  | n + 1, id, l => match nodeOf d id with
    | none => ([], false)
    | some x => if x.2.1 = 1 then (l ++ [id], true) else upF d n x.2.2 (l ++ [id])
def up (d : TDesign) (id : ByteArray) : List ByteArray × Bool := upF d 65 id []
def path0 (d : TDesign) (id : ByteArray) : List ByteArray := match nodeOf d id with
  | some _ => (up d id).1.reverse
  | none => match partOf d id with
    | some p => (up d (pNode p)).1.reverse
    | none => []
def pathOf (d : TDesign) (id : ByteArray) : List ByteArray := match partOf d id with
  | some p => path0 d (pNode p)
  | none => []
abbrev r_ls : Sh := [(false, .li .str)]
abbrev r_lsb : Sh := [(false, .li .str), (false, .bool)]
def sp_up (x : TDesign × ByteArray) : Option T := some (Sh.enc r_lsb (up x.1 x.2))
def sp_path0 (x : TDesign × ByteArray) : Option T := onlyD x.1 (Sh.enc r_ls (path0 x.1 x.2))
abbrev sp_path017 := sp_path0
def sp_path (x : TDesign × ByteArray) : Option T := onlyD x.1 (Sh.enc r_ls (pathOf x.1 x.2))
abbrev sp_path18 := sp_path
theorem upF_len {d : TDesign} : ∀ {n : Nat} {id : ByteArray} {l : List ByteArray}, (upF d n id l).1.length ≤ l.length + n
  | 0, _, _ => by simp [upF]
  | n + 1, id, l => by
    unfold upF
    cases nodeOf d id with
    | none => simp
    | some x =>
      by_cases hx : x.2.1 = 1
      · simp only [hx, if_true]
        simp
      · simp only [hx, if_false]
        have := upF_len (d := d) (n := n) (id := x.2.2) (l := l ++ [id])
        simp at this; omega
theorem up_len (d : TDesign) (id : ByteArray) : (up d id).1.length ≤ 65 := by have := upF_len (d := d) (n := 65) (id := id) (l := []); simpa [up] using this
/-- What an append of one string asks. -/
theorem app_ok {l : List ByteArray} (h : l.length ≤ 8000000000000) (K : Prop) : reqK (decide (((List.map Sy.str.enc l).length + 1) * 16 ≤ 140737488355328) && decide ((List.map Sy.str.enc l).length + 1 ≤ 140737488355328)) K = K := by
  have e : (decide (((List.map Sy.str.enc l).length + 1) * 16 ≤ 140737488355328) && decide ((List.map Sy.str.enc l).length + 1 ≤ 140737488355328)) = true := by
    simp only [List.length_map, Bool.and_eq_true, decide_eq_true_eq]
    omega
  rw [e]; simp [reqK]
theorem dec_snoc {l : List ByteArray} {x : ByteArray} (K : List ByteArray → Prop) : decK Sy.str (List.map Sy.str.enc l ++ [[T.v (Value.string x)]]) K = K (l ++ [x]) := decK_snoc (r := .str) rfl l _ x rfl K
theorem enc_snoc {l : List ByteArray} {x : ByteArray} : List.map Sy.str.enc l ++ [[T.v (Value.string x)]] = List.map Sy.str.enc (l ++ [x]) := by simp [Sy.enc]
theorem back_loop {ls : List ByteArray} (hl : ls.length ≤ 65) {R : T → Prop} (hR : R (T.sl false (List.map Sy.str.enc ls.reverse))) : loopK (List ByteArray × Int × PUnit)
        (fun (X8 : List ByteArray × Int × PUnit → Prop) (s9 : List ByteArray × Int × PUnit) =>
          iteP (decide (0 ≤ s9.snd.fst))
            (rowsK Sy.str (List.map Sy.str.enc ls) s9.snd.fst fun (y10 : ByteArray) =>
              reqK
                (decide (((List.map Sy.str.enc s9.fst).length + 1) * 16 ≤ 140737488355328) && decide ((List.map Sy.str.enc s9.fst).length + 1 ≤ 140737488355328))
                (decK Sy.str (List.map Sy.str.enc s9.fst ++ [[T.v (Value.string y10)]])
                  fun (y11 : List ByteArray) => X8 (y11, IntKind.i64.wrap (s9.snd.fst - 1), ())))
            (R (T.sl false (List.map Sy.str.enc s9.fst))))
        ([], IntKind.i64.wrap ((↑(List.map Sy.str.enc ls).length : Int) - 1), ()) := by
  refine loopK_ix ls.length (fun k s => s = (ls.reverse.take k, (ls.length : Int) - 1 - k, ())) ?_ ?_
  · simp only [List.take_zero, List.length_map, Prod.mk.injEq, and_true, true_and]
    rw [wrap_id _ (by omega) (by omega)]; simp
  rintro X k s hk rfl hX
  by_cases hlt : k < ls.length
  · have h1 : decide (0 ≤ (ls.length : Int) - 1 - k) = true := by simp; omega
    have e : (ls.length : Int) - 1 - k = ((ls.length - 1 - k : Nat) : Int) := by omega
    dsimp only
    rw [h1, e, rowsK_at (r := .str) (show ls.length - 1 - k < ls.length by omega), app_ok (by simp; omega), dec_snoc]
    simp only [iteP]
    refine hX _ hlt ?_
    have hg : ls.reverse.take (k + 1) = ls.reverse.take k ++ [ls[ls.length - 1 - k]] := by
      rw [List.take_succ_eq_append_getElem (by simpa using hlt)]
      simp
    rw [hg]
    simp only [Prod.mk.injEq, and_true, true_and]
    rw [wrap_id _ (by omega) (by omega)]; omega
  · have : k = ls.length := by omega
    subst this
    have h1 : decide (0 ≤ (ls.length : Int) - 1 - ls.length) = false := by simp; omega
    simp only [h1, iteP]
    rw [List.take_of_length_le (by simp)]
    exact hR
theorem app_ok' {l : List ByteArray} {x : ByteArray} (h : l.length ≤ 8000000000000) (K : Prop) : reqK (decide (1 = 1) && allW 1 [[T.v (Value.string x)]] && decide (((List.map Sy.str.enc l).length + [[T.v (Value.string x)].reverse].reverse.length) * 16 ≤ 140737488355328) && decide ((List.map Sy.str.enc l).length + [[T.v (Value.string x)].reverse].reverse.length ≤ 140737488355328)) K = K := by
  have e : (decide (1 = 1) && allW 1 [[T.v (Value.string x)]] && decide (((List.map Sy.str.enc l).length + [[T.v (Value.string x)].reverse].reverse.length) * 16 ≤ 140737488355328) && decide ((List.map Sy.str.enc l).length + [[T.v (Value.string x)].reverse].reverse.length ≤ 140737488355328)) = true := by
    simp only [List.length_map, Bool.and_eq_true, decide_eq_true_eq, List.length_reverse, List.length_cons, List.length_nil]
    refine ⟨⟨⟨trivial, rfl⟩, ?_⟩, ?_⟩ <;> omega
  rw [e]; simp [reqK]
set_option maxRecDepth 100000
noncomputable def E_path0 : Env := Env.of [(26, .pure g_node), (17, .pure g_partD)]
def H_path0 : FuncId → Hint := fun f => match f == 10 with | true => ⟨fun r => match r == 9 with | true => .inv [.own 4 1 .str, .val 38 false (.int .i64)] | false => .none, fun i j => match i == 7 && j == 7 with | true => some [.own 9 1 .str, .val 10 false .bool] | false => none, fun _ => none⟩ | false => match f == 27 with | true => ⟨fun r => match r == 3 with | true => .inv [.val 1 false .str, .own 6 1 .str, .val 9 false (.int .i64)] | false => .none, fun _ _ => none, fun _ => none⟩ | false => noHint
theorem Eok_path0 : EnvOk Tryz.prog E_path0 := EnvOk.cons (x := .pure g_node) fn_node (EnvOk.cons (x := .pure g_partD) fn_partD (EnvOk.nil _))
def F_path0 (a0 : TDesign) (a1 : ByteArray) (R : T → Prop) : Prop :=
 callK [(true, yNode), (false, Sy.bool)]
 (g_node [encV true yDesign a0, T.v (Value.string a1)]) fun (y0 : TNode × Bool) =>
 iteP (!y0.snd)
 (callK [(true, yPart), (false, Sy.bool)]
 (g_partD [encV true yDesign a0, T.v (Value.string a1)])
 fun (y1 : TPart × Bool) =>
 iteP (!y1.snd) (R (T.sl false []))
 (joinK (List ByteArray × Bool × PUnit)
 (fun (X2 : List ByteArray × Bool × PUnit → Prop) =>
 loopK (ByteArray × List ByteArray × Int × PUnit)
 (fun (X3 : ByteArray × List ByteArray × Int × PUnit → Prop)
 (s4 : ByteArray × List ByteArray × Int × PUnit) =>
 iteP (decide (s4.snd.snd.fst < 65))
 (callK [(true, yNode), (false, Sy.bool)]
 (g_node [encV true yDesign a0, T.v (Value.string s4.fst)])
 fun (y5 : TNode × Bool) =>
 iteP (!y5.snd) (X2 ([], false, ()))
 (reqK
 (decide (((List.map Sy.str.enc s4.snd.fst).length + 1) * 16 ≤ 140737488355328) &&
 decide ((List.map Sy.str.enc s4.snd.fst).length + 1 ≤ 140737488355328))
 (iteP (decide (y5.fst.snd.fst = 1))
 (decK Sy.str
 (List.map Sy.str.enc s4.snd.fst ++ [[T.v (Value.string s4.fst)]])
 fun (y6 : List ByteArray) => X2 (y6, true, ()))
 (decK Sy.str
 (List.map Sy.str.enc s4.snd.fst ++ [[T.v (Value.string s4.fst)]])
 fun (y7 : List ByteArray) =>
 X3 (y5.fst.snd.snd, y7, IntKind.i64.wrap (s4.snd.snd.fst + 1), ())))))
 (X2 ([], false, ())))
 (y1.fst.snd.snd.snd.fst, [], 0, ()))
 fun (s8 : List ByteArray × Bool × PUnit) =>
 loopK (List ByteArray × Int × PUnit)
 (fun (X9 : List ByteArray × Int × PUnit → Prop) (s10 : List ByteArray × Int × PUnit) =>
 iteP (decide (s10.snd.fst < (↑(List.map Sy.str.enc s8.fst).length : Int)))
 (rowsK Sy.str (List.map Sy.str.enc s8.fst)
 (IntKind.i64.wrap
 (IntKind.i64.wrap ((↑(List.map Sy.str.enc s8.fst).length : Int) - 1) - s10.snd.fst))
 fun (y11 : ByteArray) =>
 partK Sy.str (List.map Sy.str.enc s8.fst)
 (IntKind.i64.wrap
 (IntKind.i64.wrap ((↑(List.map Sy.str.enc s8.fst).length : Int) - 1) -
 s10.snd.fst)).toNat
 0 fun (y12 : ByteArray) =>
 reqK
 (decide (((List.map Sy.str.enc s10.fst).length + 1) * 16 ≤ 140737488355328) &&
 decide ((List.map Sy.str.enc s10.fst).length + 1 ≤ 140737488355328))
 (decK Sy.str
 (List.map Sy.str.enc s10.fst ++ [[T.v (Value.string y12)]])
 fun (y13 : List ByteArray) => X9 (y13, IntKind.i64.wrap (s10.snd.fst + 1), ())))
 (R (T.sl false (List.map Sy.str.enc s10.fst))))
 ([], 0, ())))
 (joinK (List ByteArray × Bool × PUnit)
 (fun (X14 : List ByteArray × Bool × PUnit → Prop) =>
 loopK (ByteArray × List ByteArray × Int × PUnit)
 (fun (X15 : ByteArray × List ByteArray × Int × PUnit → Prop)
 (s16 : ByteArray × List ByteArray × Int × PUnit) =>
 iteP (decide (s16.snd.snd.fst < 65))
 (callK [(true, yNode), (false, Sy.bool)]
 (g_node [encV true yDesign a0, T.v (Value.string s16.fst)])
 fun (y17 : TNode × Bool) =>
 iteP (!y17.snd) (X14 ([], false, ()))
 (reqK
 (decide (((List.map Sy.str.enc s16.snd.fst).length + 1) * 16 ≤ 140737488355328) &&
 decide ((List.map Sy.str.enc s16.snd.fst).length + 1 ≤ 140737488355328))
 (iteP (decide (y17.fst.snd.fst = 1))
 (decK Sy.str
 (List.map Sy.str.enc s16.snd.fst ++ [[T.v (Value.string s16.fst)]])
 fun (y18 : List ByteArray) => X14 (y18, true, ()))
 (decK Sy.str
 (List.map Sy.str.enc s16.snd.fst ++ [[T.v (Value.string s16.fst)]])
 fun (y19 : List ByteArray) =>
 X15 (y17.fst.snd.snd, y19, IntKind.i64.wrap (s16.snd.snd.fst + 1), ())))))
 (X14 ([], false, ())))
 (a1, [], 0, ()))
 fun (s20 : List ByteArray × Bool × PUnit) =>
 loopK (List ByteArray × Int × PUnit)
 (fun (X21 : List ByteArray × Int × PUnit → Prop) (s22 : List ByteArray × Int × PUnit) =>
 iteP (decide (s22.snd.fst < (↑(List.map Sy.str.enc s20.fst).length : Int)))
 (rowsK Sy.str (List.map Sy.str.enc s20.fst)
 (IntKind.i64.wrap
 (IntKind.i64.wrap ((↑(List.map Sy.str.enc s20.fst).length : Int) - 1) - s22.snd.fst))
 fun (y23 : ByteArray) =>
 partK Sy.str (List.map Sy.str.enc s20.fst)
 (IntKind.i64.wrap
 (IntKind.i64.wrap ((↑(List.map Sy.str.enc s20.fst).length : Int) - 1) - s22.snd.fst)).toNat
 0 fun (y24 : ByteArray) =>
 reqK
 (decide (((List.map Sy.str.enc s22.fst).length + 1) * 16 ≤ 140737488355328) &&
 decide ((List.map Sy.str.enc s22.fst).length + 1 ≤ 140737488355328))
 (decK Sy.str (List.map Sy.str.enc s22.fst ++ [[T.v (Value.string y24)]])
 fun (y25 : List ByteArray) => X21 (y25, IntKind.i64.wrap (s22.snd.fst + 1), ())))
 (R (T.sl false (List.map Sy.str.enc s22.fst))))
 ([], 0, ()))
theorem F_path0_eq (a0 : TDesign) (a1 : ByteArray) (R : T → Prop) : sxTop stdC2 Tryz.prog E_path0 H_path0 8 10 [encV true yDesign a0, encV false Sy.str a1] R = F_path0 a0 a1 R := by kernel_rfl
abbrev s_path0 : Sh := [(true, yDesign), (false, Sy.str)]
abbrev r_path0 : Sh := [(false, Sy.str.li)]
theorem r_path0_call (y : Sh.den r_path0) (K : Sh.den r_path0 → Prop) : callK r_path0 (some (Sh.enc r_path0 y)) K = K y := callK_enc rfl y K

noncomputable def g_path0 : List T → Option (T) := gS s_path0 sp_path0
theorem g_path0_at {a0 : TDesign} {a1 : ByteArray} : g_path0 [encV true yDesign a0, T.v (Value.string a1)] = sp_path0 (a0, a1) := gS_enc (s := s_path0) rfl (a0, a1) rfl
theorem g_path0_op {u0 u1 u2 u3 u4 u5 u6} : g_path0 [T.agg
    [T.v (Value.string u0), T.sl false (List.map yNode.enc u1),
      T.sl false (List.map yPart.enc u2),
      T.sl false (List.map ySeam.enc u3),
      T.sl false (List.map yPackage.enc u4),
      T.sl false (List.map yNeed.enc u5)],
  T.v (Value.string u6)] = sp_path0 ((u0, (u1, (u2, (u3, (u4, u5))))), u6) := gS_enc (s := s_path0) rfl ((u0, (u1, (u2, (u3, (u4, u5))))), u6) rfl
theorem of_path0 (h : ∀ (a0 : TDesign) (a1 : ByteArray) (r : T), sp_path0 (a0, a1) = some r → BdSh s_path0 (a0, a1) → F_path0 a0 a1 (fun y => y = r)) : PureFn Tryz.prog 10 g_path0 :=
  pureFn_S (E := E_path0) (Hs := H_path0) Eok_path0 mixed' plain' (noHeap_of rfl) 8 ⟨_, _, Tryz.func10, rfl⟩ rfl fun x r h1 h2 => by
    obtain ⟨a0, a1⟩ := x
    rw [show Sh.encs s_path0 (a0, a1) = [encV true yDesign a0, encV false Sy.str a1] from rfl, F_path0_eq]
    exact h a0 a1 r h1 h2

theorem forth_loop {ls : List ByteArray} (hl : ls.length ≤ 65) {R : T → Prop} (hR : R (T.sl false (List.map Sy.str.enc ls.reverse))) : loopK (List ByteArray × Int × PUnit)
            (fun (X9 : List ByteArray × Int × PUnit → Prop) (s10 : List ByteArray × Int × PUnit) =>
              iteP (decide (s10.snd.fst < (↑(List.map Sy.str.enc ls).length : Int)))
                (rowsK Sy.str (List.map Sy.str.enc ls)
                  (IntKind.i64.wrap
                    (IntKind.i64.wrap ((↑(List.map Sy.str.enc ls).length : Int) - 1) - s10.snd.fst))
                  fun (y11 : ByteArray) =>
                  partK Sy.str (List.map Sy.str.enc ls)
                    (IntKind.i64.wrap
                        (IntKind.i64.wrap ((↑(List.map Sy.str.enc ls).length : Int) - 1) -
                          s10.snd.fst)).toNat
                    0 fun (y12 : ByteArray) =>
                    reqK
                      (decide (1 = 1) && allW 1 [[T.v (Value.string y12)]] &&
                          decide
                            (((List.map Sy.str.enc s10.fst).length +
                                  [[T.v (Value.string y12)].reverse].reverse.length) *
                                16 ≤
                              140737488355328) &&
                        decide
                          ((List.map Sy.str.enc s10.fst).length +
                              [[T.v (Value.string y12)].reverse].reverse.length ≤
                            140737488355328))
                      (decK Sy.str
                        (List.map Sy.str.enc s10.fst ++ [[T.v (Value.string y12)]])
                        fun (y13 : List ByteArray) => X9 (y13, IntKind.i64.wrap (s10.snd.fst + 1), ())))
                (R (T.sl false (List.map Sy.str.enc s10.fst))))
            ([], 0, ()) := by
  refine loopK_ix ls.length (fun k s => s = (ls.reverse.take k, (k : Int), ())) (by simp) ?_
  rintro X k s hk rfl hX
  by_cases hlt : k < ls.length
  · have h1 : decide ((k : Int) < ((List.map Sy.str.enc ls).length : Int)) = true := by simp; omega
    have e : IntKind.i64.wrap (IntKind.i64.wrap (((List.map Sy.str.enc ls).length : Int) - 1) - k) = ((ls.length - 1 - k : Nat) : Int) := by
      rw [List.length_map, wrap_id ((ls.length : Int) - 1) (by omega) (by omega), wrap_id _ (by omega) (by omega)]; omega
    have hlt2 : ls.length - 1 - k < ls.length := by omega
    dsimp only
    rw [h1, e, rowsK_at (r := .str) hlt2, Int.toNat_natCast, partK_at (r := .str) hlt2, app_ok' (by simp; omega), dec_snoc, iteP_t]
    refine hX _ hlt ?_
    have hg : ls.reverse.take (k + 1) = ls.reverse.take k ++ [ls[ls.length - 1 - k]] := by
      rw [List.take_succ_eq_append_getElem (by simpa using hlt)]
      simp
    rw [hg]
    simp only [Prod.mk.injEq, and_true, true_and]
    exact wrap_id _ (by omega) (by omega)
  · have : k = ls.length := by omega
    subst this
    have h1 : decide ((ls.length : Int) < ((List.map Sy.str.enc ls).length : Int)) = false := by simp
    simp only [h1, iteP_f]
    rw [List.take_of_length_le (by simp)]
    exact hR
theorem fn_path0 : PureFn Tryz.prog 10 g_path0 := of_path0 fun d id r h hb => by
  have h' : onlyD d (Sh.enc r_ls (path0 d id)) = some r := h
  obtain ⟨hok, rfl⟩ := onlyD_of h'
  clear h h'
  unfold F_path0
  simp only [g_node_at, sp_node, r_node_call, g_partD_at, sp_partD, sp_part, hok, r_partD_call]
  have key : ∀ id0, path0 d id = (up d id0).1.reverse → joinK (List ByteArray × Bool × PUnit)
      (fun (X14 : List ByteArray × Bool × PUnit → Prop) =>
        loopK (ByteArray × List ByteArray × Int × PUnit)
          (fun (X15 : ByteArray × List ByteArray × Int × PUnit → Prop)
              (s16 : ByteArray × List ByteArray × Int × PUnit) =>
            iteP (decide (s16.snd.snd.fst < 65))
                (iteP (!(found noNode (nodeOf d s16.fst)).snd) (X14 ([], false, ()))
                  (reqK
                    (decide (1 = 1) && allW 1 [[T.v (Value.string s16.fst)]] &&
                        decide
                          (((List.map Sy.str.enc s16.snd.fst).length +
                                [[T.v (Value.string s16.fst)].reverse].reverse.length) *
                              16 ≤
                            140737488355328) &&
                      decide
                        ((List.map Sy.str.enc s16.snd.fst).length +
                            [[T.v (Value.string s16.fst)].reverse].reverse.length ≤
                          140737488355328))
                    (iteP (decide ((found noNode (nodeOf d s16.fst)).fst.snd.fst = 1))
                      (decK Sy.str
                        (List.map Sy.str.enc s16.snd.fst ++ [[T.v (Value.string s16.fst)]])
                        fun (y18 : List ByteArray) => X14 (y18, true, ()))
                      (decK Sy.str
                        (List.map Sy.str.enc s16.snd.fst ++ [[T.v (Value.string s16.fst)]])
                        fun (y19 : List ByteArray) =>
                        X15 ((found noNode (nodeOf d s16.fst)).fst.snd.snd, y19, IntKind.i64.wrap (s16.snd.snd.fst + 1), ())))))
              (X14 ([], false, ())))
          (id0, [], 0, ()))
      fun (s20 : List ByteArray × Bool × PUnit) =>
      loopK (List ByteArray × Int × PUnit)
        (fun (X21 : List ByteArray × Int × PUnit → Prop) (s22 : List ByteArray × Int × PUnit) =>
          iteP (decide (s22.snd.fst < (↑(List.map Sy.str.enc s20.fst).length : Int)))
            (rowsK Sy.str (List.map Sy.str.enc s20.fst)
              (IntKind.i64.wrap
                (IntKind.i64.wrap ((↑(List.map Sy.str.enc s20.fst).length : Int) - 1) - s22.snd.fst))
              fun (y23 : ByteArray) =>
              partK Sy.str (List.map Sy.str.enc s20.fst)
                (IntKind.i64.wrap
                    (IntKind.i64.wrap ((↑(List.map Sy.str.enc s20.fst).length : Int) - 1) - s22.snd.fst)).toNat
                0 fun (y24 : ByteArray) =>
                reqK
                  (decide (1 = 1) && allW 1 [[T.v (Value.string y24)]] &&
                      decide
                        (((List.map Sy.str.enc s22.fst).length +
                              [[T.v (Value.string y24)].reverse].reverse.length) *
                            16 ≤
                          140737488355328) &&
                    decide
                      ((List.map Sy.str.enc s22.fst).length +
                          [[T.v (Value.string y24)].reverse].reverse.length ≤
                        140737488355328))
                  (decK Sy.str (List.map Sy.str.enc s22.fst ++ [[T.v (Value.string y24)]])
                    fun (y25 : List ByteArray) => X21 (y25, IntKind.i64.wrap (s22.snd.fst + 1), ())))
            (T.sl false (List.map Sy.str.enc s22.fst) = Sh.enc r_ls (path0 d id)))
        ([], 0, ()) := by
    intro id0 hpath
    rw [joinK_def, hpath]
    refine loopK_ix 65 (fun k s => ∃ id' l', s = (id', l', (k : Int), ()) ∧ l'.length = k ∧ upF d (65 - k) id' l' = up d id0) ⟨id0, [], rfl, rfl, rfl⟩ ?_
    rintro X k s hk ⟨id', l', rfl, hl, hu⟩ hX
    dsimp only
    have fin : ∀ ls b, (ls, b) = up d id0 → _ := fun ls b e => forth_loop (ls := ls) (by rw [show ls = (up d id0).1 by rw [← e]]; exact up_len d id0) (R := fun y => y = Sh.enc r_ls (up d id0).1.reverse) (by rw [← e]; rfl)
    by_cases hlt : k < 65
    · have h1 : decide ((k : Int) < 65) = true := by simp; omega
      obtain ⟨m, hm⟩ : ∃ m, 65 - k = m + 1 := ⟨64 - k, by omega⟩
      rw [hm] at hu
      simp only [upF] at hu
      rw [h1, iteP_t, app_ok' (by omega), dec_snoc, dec_snoc]
      cases hn : nodeOf d id' with
      | none => simp only [hn] at hu; simp only [found, Bool.not_false, iteP_t]; exact fin _ _ hu
      | some x =>
        simp only [hn] at hu
        simp only [found, Bool.not_true, iteP_f]
        by_cases hx : x.2.1 = 1
        · rw [if_pos hx] at hu
          simp only [hx, decide_true, iteP_t]
          exact fin _ _ hu
        · rw [if_neg hx] at hu
          simp only [hx, decide_false, iteP_f]
          refine hX _ hlt ⟨x.2.2, l' ++ [id'], ?_, by simp [hl], by rw [← hu]; congr 1; omega⟩
          simp only [Prod.mk.injEq, and_true, true_and]
          exact wrap_id _ (by omega) (by omega)
    · have h1 : decide ((k : Int) < 65) = false := by simp; omega
      have : 65 - k = 0 := by omega
      rw [this] at hu
      rw [h1, iteP_f]
      exact fin _ _ hu
  cases hn : nodeOf d id with
  | some x =>
    simp only [found, Bool.not_true, iteP_f]
    exact key id (by simp [path0, hn])
  | none =>
    simp only [found, Bool.not_false, iteP_t]
    cases hp : partOf d id with
    | none => simp only [Bool.not_false, iteP_t]; simp [path0, hn, hp, Sh.enc, encV, Sy.enc, hdT]
    | some p =>
      simp only [Bool.not_true, iteP_f]
      exact key (pNode p) (by simp [path0, hn, hp])
end Go.Pv
