/-
  Facts on the program that every function's file asks for.
  The seam, the part, the section with an identifier.
  The part with an identifier, as the program finds it; how thick a seam is.
  Words that several files share.
  How thick a seam is.
  slices.Contains of strings.
  procedure: Fits, For.
  The way from the block down to a part.
  Chapter 17: the indices of a design, walked.
  Chapter 17: rising, walked.
  strings.Split on typed data.
  Names and identifiers.
  Chapter 17: the tree's form, walked.
  Chapter 17: the tree's other methods where a design's elements are empty, and Check there.
  Packages; equality of lists, shapes, parts and packages.
  Chapter 17: the tree's seams and requirements.
-/
import Derived.Test.YtlnfhilipnldeaaGreatDoorPki
import Derived.Test.YtlnfhilipnldeaaGreatDoorPty
import Derived.Test.YtlnfhilipnldeaaGreatDoorProg
import Derived.KernelRfl
import Derived.Test.YtlnfhilipnldeaaGreatDoorPkp
import Derived.Test.YtlnfhilipnldeaaGreatDoorPkn
import Derived.Test.YtlnfhilipnldeaaGreatDoorPgs
import Derived.Test.YtlnfhilipnldeaaGreatDoorPsl
import Derived.Laws.RangeAny
import Derived.Test.YtlnfhilipnldeaaGreatDoorPkm
set_option linter.unusedSimpArgs false
set_option linter.unusedVariables false
namespace Go.Pv
open Go Go.Proofs
theorem mixed' : Tryz.prog.follows .mixedOrders = true := by kernel_rfl
theorem plain' : plainNames Tryz.prog = true := by kernel_rfl
end Go.Pv
set_option linter.unusedSimpArgs false
set_option linter.unusedVariables false
set_option maxRecDepth 100000
namespace Go.Pv
open Go Go.Proofs

def seamOf (d : TDesign) (id : ByteArray) : Option TSeam := d.2.2.2.1.find? fun s => decide (s.1 = id)
def partOf (d : TDesign) (id : ByteArray) : Option TPart := d.2.2.1.find? fun s => decide (s.1 = id)
def nodeOf (d : TDesign) (id : ByteArray) : Option TNode := d.2.1.find? fun s => decide (s.1 = id)
def secOf (m : TMaterials) (n : ByteArray) : Option TSection := m.2.find? fun s => decide (s.1 = n)
def noSeam : TSeam := (⟨#[]⟩, ⟨#[]⟩, ⟨#[]⟩, 0, 0, 0)
def noNode : TNode := (⟨#[]⟩, 0, ⟨#[]⟩)
def noPart : TPart := (⟨#[]⟩, 0, 0, ⟨#[]⟩, ⟨#[]⟩, 0, ([], []), ⟨#[]⟩, 0, 0, (0, 0, 0), (0, 0, 0), 0)
def noSec : TSection := (⟨#[]⟩, 0, 0, 0)
def found {α : Type} (no : α) (o : Option α) : α × Bool := match o with
  | some s => (s, true)
  | none => (no, false)
def sp_seam (x : TDesign × ByteArray) : Option T := some (Sh.enc [(true, ySeam), (false, .bool)] (found noSeam (seamOf x.1 x.2)))
def sp_part (x : TDesign × ByteArray) : Option T := some (Sh.enc [(true, yPart), (false, .bool)] (found noPart (partOf x.1 x.2)))
def sp_node (x : TDesign × ByteArray) : Option T := some (Sh.enc [(true, yNode), (false, .bool)] (found noNode (nodeOf x.1 x.2)))
def sp_section (x : TMaterials × ByteArray) : Option T := some (Sh.enc [(true, ySection), (false, .bool)] (found noSec (secOf x.1 x.2)))
abbrev sp_seam17 := sp_seam
abbrev sp_part17 := sp_part
abbrev sp_node17 := sp_node

set_option maxRecDepth 100000
noncomputable def E_seam : Env := Env.of []
def H_seam : FuncId → Hint := fun f => match f == 23 with | true => ⟨fun r => match r == 2 with | true => .inv [.val 11 false (.int .i64), .fix 1] | false => .none, fun _ _ => none, fun _ => none⟩ | false => noHint
theorem Eok_seam : EnvOk Tryz.prog E_seam := EnvOk.nil _
def F_seam (a0 : TDesign) (a1 : ByteArray) (R : T → Prop) : Prop :=
 sameK
 (Box.rows false
 [[D.p (T.v (Value.string { data := #[] })), D.p (T.v (Value.string { data := #[] })),
 D.p (T.v (Value.string { data := #[] })), D.p (T.v (Value.int IntKind.i64 0)),
 D.p (T.v (Value.int IntKind.i64 0)), D.p (T.v (Value.int IntKind.i64 0))]])
 (Box.rows false
 [[D.p (T.v (Value.string { data := #[] })), D.p (T.v (Value.string { data := #[] })),
 D.p (T.v (Value.string { data := #[] })), D.p (T.v (Value.int IntKind.i64 0)),
 D.p (T.v (Value.int IntKind.i64 0)), D.p (T.v (Value.int IntKind.i64 0))]])
 (loopK (Int × PUnit × PUnit)
 (fun (X0 : Int × PUnit × PUnit → Prop) (s1 : Int × PUnit × PUnit) =>
 iteP (decide (s1.fst < (↑(List.map ySeam.enc a0.snd.snd.snd.fst).length : Int)))
 (rowsK ySeam (List.map ySeam.enc a0.snd.snd.snd.fst) s1.fst fun (y2 : TSeam) =>
 iteP (decide (y2.fst = a1))
 (R (T.tup [encV true ySeam y2, T.v (Value.bool true)]))
 (sameK
 (Box.rows false
 [[D.p (T.v (Value.string { data := #[] })),
 D.p (T.v (Value.string { data := #[] })),
 D.p (T.v (Value.string { data := #[] })),
 D.p (T.v (Value.int IntKind.i64 0)),
 D.p (T.v (Value.int IntKind.i64 0)),
 D.p (T.v (Value.int IntKind.i64 0))]])
 (Box.rows false
 [[D.p (T.v (Value.string { data := #[] })),
 D.p (T.v (Value.string { data := #[] })),
 D.p (T.v (Value.string { data := #[] })),
 D.p (T.v (Value.int IntKind.i64 0)),
 D.p (T.v (Value.int IntKind.i64 0)),
 D.p (T.v (Value.int IntKind.i64 0))]])
 (X0 (IntKind.i64.wrap (s1.fst + 1), (), ()))))
 (R
 (T.tup
 [T.agg
 [T.v (Value.string { data := #[] }), T.v (Value.string { data := #[] }),
 T.v (Value.string { data := #[] }), T.v (Value.int IntKind.i64 0),
 T.v (Value.int IntKind.i64 0), T.v (Value.int IntKind.i64 0)],
 T.v (Value.bool false)])))
 (0, (), ()))
theorem F_seam_eq (a0 : TDesign) (a1 : ByteArray) (R : T → Prop) : sxTop stdC2 Tryz.prog E_seam H_seam 8 23 [encV true yDesign a0, encV false Sy.str a1] R = F_seam a0 a1 R := by kernel_rfl
abbrev s_seam : Sh := [(true, yDesign), (false, Sy.str)]
abbrev r_seam : Sh := [(true, ySeam), (false, Sy.bool)]
theorem r_seam_call (y : Sh.den r_seam) (K : Sh.den r_seam → Prop) : callK r_seam (some (Sh.enc r_seam y)) K = K y := callK_enc rfl y K

noncomputable def g_seam : List T → Option (T) := gS s_seam sp_seam
theorem g_seam_at {a0 : TDesign} {a1 : ByteArray} : g_seam [encV true yDesign a0, T.v (Value.string a1)] = sp_seam (a0, a1) := gS_enc (s := s_seam) rfl (a0, a1) rfl
theorem g_seam_op {u0 u1 u2 u3 u4 u5 u6} : g_seam [T.agg
    [T.v (Value.string u0), T.sl false (List.map yNode.enc u1),
      T.sl false (List.map yPart.enc u2),
      T.sl false (List.map ySeam.enc u3),
      T.sl false (List.map yPackage.enc u4),
      T.sl false (List.map yNeed.enc u5)],
  T.v (Value.string u6)] = sp_seam ((u0, (u1, (u2, (u3, (u4, u5))))), u6) := gS_enc (s := s_seam) rfl ((u0, (u1, (u2, (u3, (u4, u5))))), u6) rfl
theorem of_seam (h : ∀ (a0 : TDesign) (a1 : ByteArray) (r : T), sp_seam (a0, a1) = some r → BdSh s_seam (a0, a1) → F_seam a0 a1 (fun y => y = r)) : PureFn Tryz.prog 23 g_seam :=
  pureFn_S (E := E_seam) (Hs := H_seam) Eok_seam mixed' plain' (noHeap_of rfl) 8 ⟨_, _, Tryz.func23, rfl⟩ rfl fun x r h1 h2 => by
    obtain ⟨a0, a1⟩ := x
    rw [show Sh.encs s_seam (a0, a1) = [encV true yDesign a0, encV false Sy.str a1] from rfl, F_seam_eq]
    exact h a0 a1 r h1 h2

theorem fn_seam : PureFn Tryz.prog 23 g_seam := of_seam fun d id r h hb => by
  have hl : d.2.2.2.1.length ≤ 2 ^ 47 := hb.1.2.2.2.1.1
  unfold F_seam
  rw [sameK_self]
  refine loopK_ix d.2.2.2.1.length (fun k s => s = ((k : Int), (), ()) ∧ (d.2.2.2.1.drop k).find? (fun s => decide (s.1 = id)) = seamOf d id) ⟨rfl, rfl⟩ ?_
  rintro X k s hk ⟨rfl, hf⟩ hX
  simp only [List.length_map, len_lt, sameK_self]
  by_cases hlt : k < d.2.2.2.1.length
  · rw [find_drop hlt] at hf
    simp only [hlt, decide_true, iteP, rowsK_at (r := ySeam) hlt]
    cases hc : decide (d.2.2.2.1[k].1 = id) with
    | true =>
      simp only [hc, if_true] at hf
      simp only [sp_seam, sp_seam, ← hf] at h
      cases h; rfl
    | false =>
      simp only [hc] at hf
      refine hX _ hlt ⟨?_, hf⟩
      simp only [Prod.mk.injEq, and_true]
      exact wrap_id _ (by omega) (by omega)
  · have : k = d.2.2.2.1.length := by omega
    subst this
    simp only [List.drop_length, List.find?_nil] at hf
    simp only [sp_seam, sp_seam, ← hf] at h
    simp only [hlt, decide_false, iteP]
    cases h; rfl
set_option maxRecDepth 100000
noncomputable def E_section : Env := Env.of []
def H_section : FuncId → Hint := fun f => match f == 86 with | true => ⟨fun r => match r == 2 with | true => .inv [.val 8 false (.int .i64)] | false => .none, fun _ _ => none, fun _ => none⟩ | false => noHint
theorem Eok_section : EnvOk Tryz.prog E_section := EnvOk.nil _
def F_section (a0 : TMaterials) (a1 : ByteArray) (R : T → Prop) : Prop :=
 loopK (Int × PUnit)
 (fun (X0 : Int × PUnit → Prop) (s1 : Int × PUnit) =>
 iteP (decide (s1.fst < (↑(List.map ySection.enc a0.snd).length : Int)))
 (rowsK ySection (List.map ySection.enc a0.snd) s1.fst fun (y2 : TSection) =>
 iteP (decide (y2.fst = a1))
 (iteP (decide (s1.fst < 0))
 (R
 (T.tup
 [T.agg
 [T.v (Value.string { data := #[] }), T.v (Value.int IntKind.i64 0),
 T.v (Value.int IntKind.i64 0), T.v (Value.int IntKind.i64 0)],
 T.v (Value.bool false)]))
 (rowsK ySection (List.map ySection.enc a0.snd) s1.fst fun (y3 : TSection) =>
 R (T.tup [encV true ySection y3, T.v (Value.bool true)])))
 (X0 (IntKind.i64.wrap (s1.fst + 1), ())))
 (R
 (T.tup
 [T.agg
 [T.v (Value.string { data := #[] }), T.v (Value.int IntKind.i64 0),
 T.v (Value.int IntKind.i64 0), T.v (Value.int IntKind.i64 0)],
 T.v (Value.bool false)])))
 (0, ())
theorem F_section_eq (a0 : TMaterials) (a1 : ByteArray) (R : T → Prop) : sxTop stdC2 Tryz.prog E_section H_section 8 69 [encV true yMaterials a0, encV false Sy.str a1] R = F_section a0 a1 R := by kernel_rfl
abbrev s_section : Sh := [(true, yMaterials), (false, Sy.str)]
abbrev r_section : Sh := [(true, ySection), (false, Sy.bool)]
theorem r_section_call (y : Sh.den r_section) (K : Sh.den r_section → Prop) : callK r_section (some (Sh.enc r_section y)) K = K y := callK_enc rfl y K

noncomputable def g_section : List T → Option (T) := gS s_section sp_section
theorem g_section_at {a0 : TMaterials} {a1 : ByteArray} : g_section [encV true yMaterials a0, T.v (Value.string a1)] = sp_section (a0, a1) := gS_enc (s := s_section) rfl (a0, a1) rfl
theorem g_section_op {u0 u1 u2} : g_section [T.agg [T.sl false (List.map yGrade.enc u0), T.sl false (List.map ySection.enc u1)],
  T.v (Value.string u2)] = sp_section ((u0, u1), u2) := gS_enc (s := s_section) rfl ((u0, u1), u2) rfl
theorem of_section (h : ∀ (a0 : TMaterials) (a1 : ByteArray) (r : T), sp_section (a0, a1) = some r → BdSh s_section (a0, a1) → F_section a0 a1 (fun y => y = r)) : PureFn Tryz.prog 69 g_section :=
  pureFn_S (E := E_section) (Hs := H_section) Eok_section mixed' plain' (noHeap_of rfl) 8 ⟨_, _, Tryz.func69, rfl⟩ rfl fun x r h1 h2 => by
    obtain ⟨a0, a1⟩ := x
    rw [show Sh.encs s_section (a0, a1) = [encV true yMaterials a0, encV false Sy.str a1] from rfl, F_section_eq]
    exact h a0 a1 r h1 h2

theorem fn_section : PureFn Tryz.prog 69 g_section := of_section fun m n r h hb => by
  have hl : m.2.length ≤ 2 ^ 47 := hb.1.2.1
  unfold F_section
  refine loopK_ix m.2.length (fun k s => s = ((k : Int), ()) ∧ (m.2.drop k).find? (fun s => decide (s.1 = n)) = secOf m n) ⟨rfl, rfl⟩ ?_
  rintro X k s hk ⟨rfl, hf⟩ hX
  simp only [List.length_map, len_lt]
  by_cases hlt : k < m.2.length
  · rw [find_drop hlt] at hf
    have h0 : ¬ ((k : Int) < 0) := by omega
    simp only [hlt, decide_true, iteP, rowsK_at (r := ySection) hlt, h0, decide_false]
    cases hc : decide (m.2[k].1 = n) with
    | true =>
      simp only [hc, if_true] at hf
      simp only [sp_section, ← hf] at h
      cases h; rfl
    | false =>
      simp only [hc] at hf
      refine hX _ hlt ⟨?_, hf⟩
      simp only [Prod.mk.injEq, and_true]
      exact wrap_id _ (by omega) (by omega)
  · have : k = m.2.length := by omega
    subst this
    simp only [List.drop_length, List.find?_nil] at hf
    simp only [sp_section, ← hf] at h
    simp only [hlt, decide_false, iteP]
    cases h; rfl
end Go.Pv
set_option linter.unusedSimpArgs false
set_option linter.unusedVariables false
set_option maxRecDepth 100000
namespace Go.Pv
open Go Go.Proofs

theorem cl_clonePt : CloneP Tryz.prog 54 2 16 := ⟨fun R => by kernel_rfl, fun fl R => by kernel_rfl, fun fl a rows R => by kernel_rfl⟩
noncomputable def g_clonePt : List T → Option T := gS [(false, .li yPoint)] (spCloneP yPoint 16)
theorem g_clonePt_at {u0} : g_clonePt [T.sl false (List.map (Sy.enc yPoint) u0)] = spCloneP yPoint 16 u0 := gS_enc (s := [(false, .li yPoint)]) rfl u0 rfl
theorem fn_clonePt : PureFn Tryz.prog 54 g_clonePt := cloneP_of mixed' plain' ⟨_, _, Tryz.func54, rfl⟩ cl_clonePt

theorem cl_clonePtt : CloneF Tryz.prog 55 1 24 := ⟨fun R => by kernel_rfl, fun fl R => by kernel_rfl, fun fl a rows R => by kernel_rfl⟩
noncomputable def g_clonePtt : List T → Option (List (List T)) := gS [(false, .li (.li yPoint))] (spClone (.li yPoint) 24)
theorem g_clonePtt_at {u0} : g_clonePtt [T.sl false (List.map (Sy.enc (.li yPoint)) u0)] = spClone (.li yPoint) 24 u0 := gS_enc (s := [(false, .li (.li yPoint))]) rfl u0 rfl
theorem fn_clonePtt : FreshFn Tryz.prog 55 g_clonePtt := cloneF_of mixed' plain' ⟨_, _, Tryz.func55, rfl⟩ cl_clonePtt

/-- A list that may be copied. -/
def okLen (b : Nat) (n : Nat) : Bool := decide (n * b ≤ 140737488355328) && decide (n ≤ 140737488355328)
def okShape (s : TShape) : Bool := okLen 16 s.1.length && okLen 24 s.2.length && s.2.all fun h => okLen 16 h.length
def okPart (p : TPart) : Bool := okShape p.2.2.2.2.2.2.1
def okD (d : TDesign) : Bool := d.2.2.1.all okPart
theorem spClone_ok {r : Sy} {b : Nat} {l : List r.den} (h : okLen b l.length = true) : spClone r b l = some (List.map r.enc l) := by
  unfold spClone; unfold okLen at h; rw [h]
def sp_partD (x : TDesign × ByteArray) : Option T := match okD x.1 with
  | true => sp_part x
  | false => none
set_option maxRecDepth 100000
noncomputable def E_partD : Env := Env.of [(54, .pure g_clonePt), (55, .fresh g_clonePtt)]
def H_partD : FuncId → Hint := fun f => match f == 25 with | true => ⟨fun r => match r == 2 with | true => .inv [.val 13 false (.int .i64), .fix 1] | false => match r == 7 with | true => .alt [.val 37 false (.int .i64), .arr 4 1 (.li yPoint)] [.val 37 false (.int .i64)] | false => .none, fun _ _ => none, fun _ => none⟩ | false => noHint
theorem Eok_partD : EnvOk Tryz.prog E_partD := EnvOk.cons (x := .pure g_clonePt) fn_clonePt (EnvOk.cons (x := .fresh g_clonePtt) fn_clonePtt (EnvOk.nil _))
def F_partD (a0 : TDesign) (a1 : ByteArray) (R : T → Prop) : Prop :=
 sameK
 (Box.rows false
 [[D.p (T.v (Value.string { data := #[] })), D.p (T.v (Value.int IntKind.i64 0)),
 D.p (T.v (Value.int IntKind.i64 0)), D.p (T.v (Value.string { data := #[] })),
 D.p (T.v (Value.string { data := #[] })), D.p (T.v (Value.int IntKind.i64 0)),
 D.p (T.v (Value.slice none 0 0)), D.p (T.v (Value.slice none 0 0)),
 D.p (T.v (Value.string { data := #[] })), D.p (T.v (Value.int IntKind.i64 0)),
 D.p (T.v (Value.int IntKind.i64 0)), D.p (T.v (Value.int IntKind.i64 0)),
 D.p (T.v (Value.int IntKind.i64 0)), D.p (T.v (Value.int IntKind.i64 0)),
 D.p (T.v (Value.int IntKind.i64 0)), D.p (T.v (Value.int IntKind.i64 0)),
 D.p (T.v (Value.int IntKind.i64 0)), D.p (T.v (Value.int IntKind.i64 0))]])
 (Box.rows false
 [[D.p (T.v (Value.string { data := #[] })), D.p (T.v (Value.int IntKind.i64 0)),
 D.p (T.v (Value.int IntKind.i64 0)), D.p (T.v (Value.string { data := #[] })),
 D.p (T.v (Value.string { data := #[] })), D.p (T.v (Value.int IntKind.i64 0)),
 D.p (T.v (Value.slice none 0 0)), D.p (T.v (Value.slice none 0 0)),
 D.p (T.v (Value.string { data := #[] })), D.p (T.v (Value.int IntKind.i64 0)),
 D.p (T.v (Value.int IntKind.i64 0)), D.p (T.v (Value.int IntKind.i64 0)),
 D.p (T.v (Value.int IntKind.i64 0)), D.p (T.v (Value.int IntKind.i64 0)),
 D.p (T.v (Value.int IntKind.i64 0)), D.p (T.v (Value.int IntKind.i64 0)),
 D.p (T.v (Value.int IntKind.i64 0)), D.p (T.v (Value.int IntKind.i64 0))]])
 (loopK (Int × PUnit × PUnit)
 (fun (X0 : Int × PUnit × PUnit → Prop) (s1 : Int × PUnit × PUnit) =>
 iteP (decide (s1.fst < (↑(List.map yPart.enc a0.snd.snd.fst).length : Int)))
 (rowsK yPart (List.map yPart.enc a0.snd.snd.fst) s1.fst fun (y2 : TPart) =>
 iteP (decide (y2.fst = a1))
 (callK [(false, yPoint.li)]
 (g_clonePt [T.sl false (List.map yPoint.enc y2.snd.snd.snd.snd.snd.snd.fst.fst)])
 fun (y3 : List TPoint) =>
 freshK yPoint.li
 (g_clonePtt [T.sl false (List.map yPoint.li.enc y2.snd.snd.snd.snd.snd.snd.fst.snd)])
 fun (y4 : List (List TPoint)) =>
 iteP y4.isEmpty
 (loopK (Int × PUnit)
 (fun (X5 : Int × PUnit → Prop) (s6 : Int × PUnit) =>
 iteP (decide (s6.fst < (↑0 : Int)))
 (rowsK yPoint.li [] s6.fst fun (y7 : List TPoint) =>
 callK [(false, yPoint.li)]
 (g_clonePt [T.sl false (List.map yPoint.enc y7)])
 fun (y8 : List TPoint) =>
 rowsK yPoint.li [] s6.fst fun (y9 : List TPoint) => badK 104)
 (R
 (T.tup
 [T.agg
 [T.v (Value.string y2.fst), T.v (Value.int IntKind.i64 y2.snd.fst),
 T.v (Value.int IntKind.i64 y2.snd.snd.fst),
 T.v (Value.string y2.snd.snd.snd.fst),
 T.v (Value.string y2.snd.snd.snd.snd.fst),
 T.v (Value.int IntKind.i64 y2.snd.snd.snd.snd.snd.fst),
 T.sl false (List.map yPoint.enc y3), T.sl false [],
 T.v (Value.string y2.snd.snd.snd.snd.snd.snd.snd.fst),
 T.v (Value.int IntKind.i64 y2.snd.snd.snd.snd.snd.snd.snd.snd.fst),
 T.v (Value.int IntKind.i64 y2.snd.snd.snd.snd.snd.snd.snd.snd.snd.fst),
 T.v
 (Value.int IntKind.i64 y2.snd.snd.snd.snd.snd.snd.snd.snd.snd.snd.fst.fst),
 T.v
 (Value.int IntKind.i64
 y2.snd.snd.snd.snd.snd.snd.snd.snd.snd.snd.fst.snd.fst),
 T.v
 (Value.int IntKind.i64
 y2.snd.snd.snd.snd.snd.snd.snd.snd.snd.snd.fst.snd.snd),
 T.v
 (Value.int IntKind.i64
 y2.snd.snd.snd.snd.snd.snd.snd.snd.snd.snd.snd.fst.fst),
 T.v
 (Value.int IntKind.i64
 y2.snd.snd.snd.snd.snd.snd.snd.snd.snd.snd.snd.fst.snd.fst),
 T.v
 (Value.int IntKind.i64
 y2.snd.snd.snd.snd.snd.snd.snd.snd.snd.snd.snd.fst.snd.snd),
 T.v
 (Value.int IntKind.i64 y2.snd.snd.snd.snd.snd.snd.snd.snd.snd.snd.snd.snd)],
 T.v (Value.bool true)])))
 (0, ()))
 (decK yPoint.li (List.map yPoint.li.enc y4) fun (y10 : List (List TPoint)) =>
 loopK (Int × List (List TPoint) × PUnit)
 (fun (X11 : Int × List (List TPoint) × PUnit → Prop)
 (s12 : Int × List (List TPoint) × PUnit) =>
 iteP (decide (s12.fst < (↑(List.map yPoint.li.enc y4).length : Int)))
 (rowsK yPoint.li (List.map yPoint.li.enc s12.snd.fst) s12.fst
 fun (y13 : List TPoint) =>
 partK yPoint.li (List.map yPoint.li.enc s12.snd.fst) (Int.toNat s12.fst) 0
 fun (y14 : List TPoint) =>
 callK [(false, yPoint.li)]
 (g_clonePt [T.sl false (List.map yPoint.enc y14)])
 fun (y15 : List TPoint) =>
 rowsK yPoint.li (List.map yPoint.li.enc s12.snd.fst) s12.fst
 fun (y16 : List TPoint) =>
 rowK (List.map yPoint.li.enc s12.snd.fst) (Int.toNat s12.fst)
 fun (y17 : List T) =>
 reqK (decide (1 ≤ y17.length))
 (decK yPoint.li
 ((List.map yPoint.li.enc s12.snd.fst).set (Int.toNat s12.fst)
 (splice y17 0 [T.sl false (List.map yPoint.enc y15)]))
 fun (y18 : List (List TPoint)) =>
 X11 (IntKind.i64.wrap (s12.fst + 1), y18, ())))
 (R
 (T.tup
 [T.agg
 [T.v (Value.string y2.fst),
 T.v (Value.int IntKind.i64 y2.snd.fst),
 T.v (Value.int IntKind.i64 y2.snd.snd.fst),
 T.v (Value.string y2.snd.snd.snd.fst),
 T.v (Value.string y2.snd.snd.snd.snd.fst),
 T.v (Value.int IntKind.i64 y2.snd.snd.snd.snd.snd.fst),
 T.sl false (List.map yPoint.enc y3),
 T.sl false (List.map yPoint.li.enc s12.snd.fst),
 T.v (Value.string y2.snd.snd.snd.snd.snd.snd.snd.fst),
 T.v (Value.int IntKind.i64 y2.snd.snd.snd.snd.snd.snd.snd.snd.fst),
 T.v (Value.int IntKind.i64 y2.snd.snd.snd.snd.snd.snd.snd.snd.snd.fst),
 T.v
 (Value.int IntKind.i64 y2.snd.snd.snd.snd.snd.snd.snd.snd.snd.snd.fst.fst),
 T.v
 (Value.int IntKind.i64
 y2.snd.snd.snd.snd.snd.snd.snd.snd.snd.snd.fst.snd.fst),
 T.v
 (Value.int IntKind.i64
 y2.snd.snd.snd.snd.snd.snd.snd.snd.snd.snd.fst.snd.snd),
 T.v
 (Value.int IntKind.i64
 y2.snd.snd.snd.snd.snd.snd.snd.snd.snd.snd.snd.fst.fst),
 T.v
 (Value.int IntKind.i64
 y2.snd.snd.snd.snd.snd.snd.snd.snd.snd.snd.snd.fst.snd.fst),
 T.v
 (Value.int IntKind.i64
 y2.snd.snd.snd.snd.snd.snd.snd.snd.snd.snd.snd.fst.snd.snd),
 T.v
 (Value.int IntKind.i64 y2.snd.snd.snd.snd.snd.snd.snd.snd.snd.snd.snd.snd)],
 T.v (Value.bool true)])))
 (0, y10, ())))
 (sameK
 (Box.rows false
 [[D.p (T.v (Value.string { data := #[] })),
 D.p (T.v (Value.int IntKind.i64 0)),
 D.p (T.v (Value.int IntKind.i64 0)),
 D.p (T.v (Value.string { data := #[] })),
 D.p (T.v (Value.string { data := #[] })),
 D.p (T.v (Value.int IntKind.i64 0)),
 D.p (T.v (Value.slice none 0 0)), D.p (T.v (Value.slice none 0 0)),
 D.p (T.v (Value.string { data := #[] })),
 D.p (T.v (Value.int IntKind.i64 0)),
 D.p (T.v (Value.int IntKind.i64 0)),
 D.p (T.v (Value.int IntKind.i64 0)),
 D.p (T.v (Value.int IntKind.i64 0)),
 D.p (T.v (Value.int IntKind.i64 0)),
 D.p (T.v (Value.int IntKind.i64 0)),
 D.p (T.v (Value.int IntKind.i64 0)),
 D.p (T.v (Value.int IntKind.i64 0)),
 D.p (T.v (Value.int IntKind.i64 0))]])
 (Box.rows false
 [[D.p (T.v (Value.string { data := #[] })),
 D.p (T.v (Value.int IntKind.i64 0)),
 D.p (T.v (Value.int IntKind.i64 0)),
 D.p (T.v (Value.string { data := #[] })),
 D.p (T.v (Value.string { data := #[] })),
 D.p (T.v (Value.int IntKind.i64 0)),
 D.p (T.v (Value.slice none 0 0)), D.p (T.v (Value.slice none 0 0)),
 D.p (T.v (Value.string { data := #[] })),
 D.p (T.v (Value.int IntKind.i64 0)),
 D.p (T.v (Value.int IntKind.i64 0)),
 D.p (T.v (Value.int IntKind.i64 0)),
 D.p (T.v (Value.int IntKind.i64 0)),
 D.p (T.v (Value.int IntKind.i64 0)),
 D.p (T.v (Value.int IntKind.i64 0)),
 D.p (T.v (Value.int IntKind.i64 0)),
 D.p (T.v (Value.int IntKind.i64 0)),
 D.p (T.v (Value.int IntKind.i64 0))]])
 (X0 (IntKind.i64.wrap (s1.fst + 1), (), ()))))
 (R
 (T.tup
 [T.agg
 [T.v (Value.string { data := #[] }), T.v (Value.int IntKind.i64 0),
 T.v (Value.int IntKind.i64 0), T.v (Value.string { data := #[] }),
 T.v (Value.string { data := #[] }), T.v (Value.int IntKind.i64 0),
 T.sl false [], T.sl false [], T.v (Value.string { data := #[] }),
 T.v (Value.int IntKind.i64 0), T.v (Value.int IntKind.i64 0),
 T.v (Value.int IntKind.i64 0), T.v (Value.int IntKind.i64 0),
 T.v (Value.int IntKind.i64 0), T.v (Value.int IntKind.i64 0),
 T.v (Value.int IntKind.i64 0), T.v (Value.int IntKind.i64 0),
 T.v (Value.int IntKind.i64 0)],
 T.v (Value.bool false)])))
 (0, (), ()))
theorem F_partD_eq (a0 : TDesign) (a1 : ByteArray) (R : T → Prop) : sxTop stdC2 Tryz.prog E_partD H_partD 8 25 [encV true yDesign a0, encV false Sy.str a1] R = F_partD a0 a1 R := by kernel_rfl
abbrev s_partD : Sh := [(true, yDesign), (false, Sy.str)]
abbrev r_partD : Sh := [(true, yPart), (false, Sy.bool)]
theorem r_partD_call (y : Sh.den r_partD) (K : Sh.den r_partD → Prop) : callK r_partD (some (Sh.enc r_partD y)) K = K y := callK_enc rfl y K

noncomputable def g_partD : List T → Option (T) := gS s_partD sp_partD
theorem g_partD_at {a0 : TDesign} {a1 : ByteArray} : g_partD [encV true yDesign a0, T.v (Value.string a1)] = sp_partD (a0, a1) := gS_enc (s := s_partD) rfl (a0, a1) rfl
theorem g_partD_op {u0 u1 u2 u3 u4 u5 u6} : g_partD [T.agg
    [T.v (Value.string u0), T.sl false (List.map yNode.enc u1),
      T.sl false (List.map yPart.enc u2),
      T.sl false (List.map ySeam.enc u3),
      T.sl false (List.map yPackage.enc u4),
      T.sl false (List.map yNeed.enc u5)],
  T.v (Value.string u6)] = sp_partD ((u0, (u1, (u2, (u3, (u4, u5))))), u6) := gS_enc (s := s_partD) rfl ((u0, (u1, (u2, (u3, (u4, u5))))), u6) rfl
theorem of_partD (h : ∀ (a0 : TDesign) (a1 : ByteArray) (r : T), sp_partD (a0, a1) = some r → BdSh s_partD (a0, a1) → F_partD a0 a1 (fun y => y = r)) : PureFn Tryz.prog 25 g_partD :=
  pureFn_S (E := E_partD) (Hs := H_partD) Eok_partD mixed' plain' (noHeap_of rfl) 8 ⟨_, _, Tryz.func25, rfl⟩ rfl fun x r h1 h2 => by
    obtain ⟨a0, a1⟩ := x
    rw [show Sh.encs s_partD (a0, a1) = [encV true yDesign a0, encV false Sy.str a1] from rfl, F_partD_eq]
    exact h a0 a1 r h1 h2

theorem fn_partD : PureFn Tryz.prog 25 g_partD := of_partD fun d id r h hb => by
  have hl : d.2.2.1.length ≤ 2 ^ 47 := hb.1.2.2.1.1
  unfold sp_partD at h
  split at h
  · rename_i hok
    unfold F_partD
    rw [sameK_self]
    refine loopK_ix d.2.2.1.length (fun k s => s = ((k : Int), (), ()) ∧ (d.2.2.1.drop k).find? (fun s => decide (s.1 = id)) = partOf d id) ⟨rfl, rfl⟩ ?_
    rintro X k s hk ⟨rfl, hf⟩ hX
    simp only [List.length_map, len_lt, sameK_self]
    by_cases hlt : k < d.2.2.1.length
    · rw [find_drop hlt] at hf
      have hp : okPart d.2.2.1[k] = true := List.all_eq_true.1 hok _ (List.getElem_mem hlt)
      simp only [hlt, decide_true, iteP, rowsK_at (r := yPart) hlt]
      generalize d.2.2.1[k] = p at *
      unfold okPart okShape at hp
      simp only [Bool.and_eq_true] at hp
      obtain ⟨⟨hp1, hp2⟩, hp3⟩ := hp
      cases hc : decide (p.1 = id) with
      | true =>
        simp only [hc, if_true] at hf
        simp only [sp_part, ← hf] at h
        cases h
        simp only []
        refine callK_some (s := [(false, yPoint.li)]) (y := p.2.2.2.2.2.2.1.1) (by rw [g_clonePt_at, spCloneP, spClone_ok hp1]; rfl) ?_
        refine freshK_at (r := .li yPoint) (l := p.2.2.2.2.2.2.1.2) (by rw [g_clonePtt_at, spClone_ok hp2]) _ ?_
        obtain ⟨p1, p2, p3, p4, p5, p6, ⟨o, hs⟩, p7⟩ := p
        have hb47 : hs.length ≤ 140737488355328 := by
          simp only [okLen, Bool.and_eq_true, decide_eq_true_eq] at hp2; exact hp2.2
        cases hs with
        | nil =>
          simp only [List.isEmpty_nil]
          refine loopK_ix 0 (fun k s => s = ((k : Int), ())) rfl ?_
          rintro X k s hk rfl hX
          have : k = 0 := by omega
          subst this
          rfl
        | cons h0 hs =>
          generalize hhs : h0 :: hs = hh at *
          have he : hh.isEmpty = false := by rw [← hhs]; rfl
          simp only [he]
          rw [decK_map (r := .li yPoint) rfl]
          refine loopK_ix hh.length (fun k s => s = ((k : Int), hh, ())) rfl ?_
          rintro X k s hk rfl hX
          simp only [List.length_map, len_lt]
          by_cases hlt : k < hh.length
          · have hok : okLen 16 hh[k].length = true := List.all_eq_true.1 hp3 _ (List.getElem_mem hlt)
            simp only [hlt, decide_true, Int.toNat_natCast, rowsK_at (r := .li yPoint) hlt, partK_at (r := .li yPoint) hlt, rowK_at (r := .li yPoint) hlt]
            refine callK_some (s := [(false, yPoint.li)]) (y := hh[k]) (by rw [g_clonePt_at, spCloneP, spClone_ok hok]; rfl) ?_
            refine ⟨rfl, ?_⟩
            have e : splice (Sy.enc (.li yPoint) hh[k]) 0 [T.sl false (List.map yPoint.enc hh[k])] = Sy.enc (.li yPoint) hh[k] := rfl
            rw [e, set_self (r := .li yPoint) hlt, decK_map (r := .li yPoint) rfl]
            refine hX _ hlt ?_
            simp only [Prod.mk.injEq, and_true]
            exact wrap_id _ (by omega) (by omega)
          · simp only [hlt, decide_false]
            rfl
      | false =>
        simp only [hc] at hf
        refine hX _ hlt ⟨?_, hf⟩
        simp only [Prod.mk.injEq, and_true]
        exact wrap_id _ (by omega) (by omega)
    · have : k = d.2.2.1.length := by omega
      subst this
      simp only [List.drop_length, List.find?_nil] at hf
      simp only [sp_part, ← hf] at h
      simp only [hlt, decide_false, iteP]
      cases h; rfl
  · cases h
end Go.Pv
set_option linter.unusedSimpArgs false
set_option linter.unusedVariables false
set_option maxRecDepth 100000
namespace Go.Pv
open Go Go.Proofs
abbrev pKind (p : TPart) : Int := p.2.2.1
abbrev pNode (p : TPart) : ByteArray := p.2.2.2.1
abbrev pThick (p : TPart) : Int := p.2.2.2.2.2.1
abbrev pSec (p : TPart) : ByteArray := p.2.2.2.2.2.2.2.1
def onlyD (d : TDesign) (t : T) : Option T := match okD d with
  | true => some t
  | false => none
abbrev r_ib : Sh := [(false, .int .i64), (false, .bool)]
abbrev r_b : Sh := [(false, .bool)]
theorem onlyD_of {d : TDesign} {t r : T} (h : onlyD d t = some r) : okD d = true ∧ r = t := by
  unfold onlyD at h; split at h
  · cases h; exact ⟨by assumption, rfl⟩
  · cases h
theorem onlyD_ok {d : TDesign} (t : T) (h : okD d = true) : onlyD d t = some t := by unfold onlyD; rw [h]
theorem iteP_yes {p : Prop} {i : Decidable p} (h : p) {A B : Prop} (ha : A) : iteP (@decide p i) A B := by rw [show @decide p i = true from decide_eq_true h]; exact ha
theorem iteP_no {p : Prop} {i : Decidable p} (h : ¬ p) {A B : Prop} (hb : B) : iteP (@decide p i) A B := by rw [show @decide p i = false from decide_eq_false h]; exact hb
theorem iteP_nyes {p : Prop} {i : Decidable p} (h : p) {A B : Prop} (hb : B) : iteP (!(@decide p i)) A B := by rw [show @decide p i = true from decide_eq_true h]; exact hb
theorem iteP_nno {p : Prop} {i : Decidable p} (h : ¬ p) {A B : Prop} (ha : A) : iteP (!(@decide p i)) A B := by rw [show @decide p i = false from decide_eq_false h]; exact ha
theorem ifP {p : Prop} {i : Decidable p} {A B : Prop} (h1 : p → A) (h2 : ¬ p → B) : iteP (@decide p i) A B := by
  by_cases h : p
  · rw [decide_eq_true h]; exact h1 h
  · rw [decide_eq_false h]; exact h2 h
theorem ifQ {p : Prop} {i : Decidable p} {A B : Prop} (h1 : ¬ p → A) (h2 : p → B) : iteP (!(@decide p i)) A B := by
  by_cases h : p
  · rw [decide_eq_true h]; exact h2 h
  · rw [decide_eq_false h]; exact h1 h
theorem ifB {c : Bool} {A B : Prop} (h1 : c = true → A) (h2 : c = false → B) : iteP c A B := by cases c with
  | true => exact h1 rfl
  | false => exact h2 rfl
theorem ifNB {c : Bool} {A B : Prop} (h1 : c = false → A) (h2 : c = true → B) : iteP (!c) A B := by cases c with
  | true => exact h2 rfl
  | false => exact h1 rfl
def firstE {α : Type} (f : α → Int) : List α → Int
  | [] => 0
  | a :: l => if f a = 0 then firstE f l else f a
theorem first_loop {r : Sy} {l : List r.den} (f : r.den → Int) (hl : l.length ≤ 140737488355328) {Body : (Int × PUnit → Prop) → Int × PUnit → r.den → Prop} {Exit : Prop}
    (hbody : ∀ (X : Int × PUnit → Prop) (s : Int × PUnit) (y : r.den), y ∈ l → (f y = 0 → X (IntKind.i64.wrap (s.fst + 1), ())) → (f y ≠ 0 → firstE f l = f y) → Body X s y) (hexit : firstE f l = 0 → Exit) :
    loopK (Int × PUnit) (fun (X : Int × PUnit → Prop) (s : Int × PUnit) => iteP (decide (s.fst < ((List.map r.enc l).length : Int))) (rowsK r (List.map r.enc l) s.fst fun y => Body X s y) Exit) (0, ()) := by
  refine loopK_ix l.length (fun k s => s = ((k : Int), ()) ∧ firstE f l = firstE f (l.drop k)) ⟨rfl, by rw [List.drop_zero]⟩ ?_
  rintro X k s hk ⟨rfl, he⟩ hX
  dsimp only
  refine ifP (fun hlt => ?_) fun hge => ?_
  · rw [List.length_map] at hlt
    have hlt : k < l.length := by omega
    rw [rowsK_at hlt]
    have hd : l.drop k = l[k] :: l.drop (k + 1) := List.drop_eq_getElem_cons hlt
    rw [hd, firstE] at he
    refine hbody X _ _ (List.getElem_mem hlt) (fun h0 => ?_) fun h0 => by rw [he, if_neg h0]
    rw [if_pos h0] at he
    exact hX _ hlt ⟨by rw [show IntKind.i64.wrap ((k : Int) + 1) = ((k + 1 : Nat) : Int) from wrap_id _ (by omega) (by omega)], he⟩
  · rw [List.length_map] at hge
    have : k = l.length := by omega
    subst this
    rw [List.drop_length] at he
    exact hexit he
end Go.Pv
set_option linter.unusedSimpArgs false
set_option linter.unusedVariables false
set_option maxRecDepth 100000
namespace Go.Pv
open Go Go.Proofs

def secThick (s : TSection) : Int := if 1 < IntKind.i64.wrap (s.2.1.tdiv s.2.2.1) then IntKind.i64.wrap (s.2.1.tdiv s.2.2.1) else 1
/-- The thickness of a part, and whether it has one. -/
def thick0 (d : TDesign) (m : TMaterials) (id : ByteArray) : Int × Bool :=
  match partOf d id with
  | none => (0, false)
  | some p =>
    if pKind p = 1 then (pThick p, true)
    else if pKind p = 2 ∨ pKind p = 3 then
      match secOf m (pSec p) with
      | none => (0, false)
      | some s => if s.2.2.1 < 1 then (0, false) else (secThick s, true)
    else (0, decide (pKind p = 4))
def fitting (d : TDesign) (id : ByteArray) : Bool := match partOf d id with
  | some p => decide (pKind p = 4)
  | none => false
def thick (d : TDesign) (m : TMaterials) (id : ByteArray) : Int × Bool :=
  match seamOf d id with
  | none => (0, false)
  | some s =>
    if (thick0 d m s.2.1).2 = true ∧ (thick0 d m s.2.2.1).2 = true then
      if fitting d s.2.1 = true then ((thick0 d m s.2.2.1).1, true)
      else if fitting d s.2.2.1 = true then ((thick0 d m s.2.1).1, true)
      else (if (thick0 d m s.2.2.1).1 < (thick0 d m s.2.1).1 then (thick0 d m s.2.2.1).1 else (thick0 d m s.2.1).1, true)
    else (0, false)
def sp_thick0 (x : TDesign × TMaterials × ByteArray) : Option T := onlyD x.1 (Sh.enc r_ib (thick0 x.1 x.2.1 x.2.2))
def sp_fitting (x : TDesign × ByteArray) : Option T := onlyD x.1 (Sh.enc r_b (fitting x.1 x.2))
def sp_thick (x : TDesign × TMaterials × ByteArray) : Option T := onlyD x.1 (Sh.enc r_ib (thick x.1 x.2.1 x.2.2))
abbrev sp_thick018 := sp_thick0
abbrev sp_fitting18 := sp_fitting
abbrev sp_thick18 := sp_thick
def light (d : TDesign) (n : Int) : Bool := decide ((d.2.1.length : Int) ≤ n) && decide ((d.2.2.1.length : Int) ≤ n) && decide ((d.2.2.2.1.length : Int) ≤ n)
def sp_light (x : TDesign × Int) : Option T := some (Sh.enc r_b (light x.1 x.2))

set_option maxRecDepth 100000
noncomputable def E_light : Env := Env.of []
def H_light : FuncId → Hint := fun _ => noHint
theorem Eok_light : EnvOk Tryz.prog E_light := EnvOk.nil _
def F_light (a0 : TDesign) (a1 : Int) (R : T → Prop) : Prop :=
 iteP (decide ((↑(List.map yNode.enc a0.snd.fst).length : Int) ≤ a1))
 (iteP (decide ((↑(List.map yPart.enc a0.snd.snd.fst).length : Int) ≤ a1))
 (R (T.v (Value.bool (decide ((↑(List.map ySeam.enc a0.snd.snd.snd.fst).length : Int) ≤ a1)))))
 (R (T.v (Value.bool false))))
 (R (T.v (Value.bool false)))
theorem F_light_eq (a0 : TDesign) (a1 : Int) (R : T → Prop) : sxTop stdC2 Tryz.prog E_light H_light 8 4 [encV true yDesign a0, encV false (Sy.int IntKind.i64) a1] R = F_light a0 a1 R := by kernel_rfl
abbrev s_light : Sh := [(true, yDesign), (false, (Sy.int IntKind.i64))]
abbrev r_light : Sh := [(false, Sy.bool)]
theorem r_light_call (y : Sh.den r_light) (K : Sh.den r_light → Prop) : callK r_light (some (Sh.enc r_light y)) K = K y := callK_enc rfl y K

noncomputable def g_light : List T → Option (T) := gS s_light sp_light
theorem g_light_at {a0 : TDesign} {a1 : Int} : g_light [encV true yDesign a0, T.v (Value.int IntKind.i64 a1)] = sp_light (a0, a1) := gS_enc (s := s_light) rfl (a0, a1) rfl
theorem g_light_op {u0 u1 u2 u3 u4 u5 u6} : g_light [T.agg
    [T.v (Value.string u0), T.sl false (List.map yNode.enc u1),
      T.sl false (List.map yPart.enc u2),
      T.sl false (List.map ySeam.enc u3),
      T.sl false (List.map yPackage.enc u4),
      T.sl false (List.map yNeed.enc u5)],
  T.v (Value.int IntKind.i64 u6)] = sp_light ((u0, (u1, (u2, (u3, (u4, u5))))), u6) := gS_enc (s := s_light) rfl ((u0, (u1, (u2, (u3, (u4, u5))))), u6) rfl
theorem of_light (h : ∀ (a0 : TDesign) (a1 : Int) (r : T), sp_light (a0, a1) = some r → BdSh s_light (a0, a1) → F_light a0 a1 (fun y => y = r)) : PureFn Tryz.prog 4 g_light :=
  pureFn_S (E := E_light) (Hs := H_light) Eok_light mixed' plain' (noHeap_of rfl) 8 ⟨_, _, Tryz.func4, rfl⟩ rfl fun x r h1 h2 => by
    obtain ⟨a0, a1⟩ := x
    rw [show Sh.encs s_light (a0, a1) = [encV true yDesign a0, encV false (Sy.int IntKind.i64) a1] from rfl, F_light_eq]
    exact h a0 a1 r h1 h2

theorem fn_light : PureFn Tryz.prog 4 g_light := of_light fun d n r h hb => by
  cases h
  unfold F_light
  simp only [List.length_map, iteP_def, Sh.enc, encV, Sy.enc, hdT, light]
  by_cases h1 : (d.2.1.length : Int) ≤ n <;> by_cases h2 : (d.2.2.1.length : Int) ≤ n <;> simp [h1, h2]
set_option maxRecDepth 100000
noncomputable def E_thick0 : Env := Env.of [(25, .pure g_partD), (69, .pure g_section)]
def H_thick0 : FuncId → Hint := fun _ => noHint
theorem Eok_thick0 : EnvOk Tryz.prog E_thick0 := EnvOk.cons (x := .pure g_partD) fn_partD (EnvOk.cons (x := .pure g_section) fn_section (EnvOk.nil _))
def F_thick0 (a0 : TDesign) (a1 : TMaterials) (a2 : ByteArray) (R : T → Prop) : Prop :=
 callK [(true, yPart), (false, Sy.bool)]
 (g_partD [encV true yDesign a0, T.v (Value.string a2)]) fun (y0 : TPart × Bool) =>
 iteP (!y0.snd) (R (T.tup [T.v (Value.int IntKind.i64 0), T.v (Value.bool false)]))
 (iteP (decide (y0.fst.snd.snd.fst = 1))
 (R
 (T.tup
 [T.v (Value.int IntKind.i64 y0.fst.snd.snd.snd.snd.snd.fst), T.v (Value.bool true)]))
 (iteP (decide (y0.fst.snd.snd.fst = 2))
 (callK [(true, ySection), (false, Sy.bool)]
 (g_section
 [encV true yMaterials a1, T.v (Value.string y0.fst.snd.snd.snd.snd.snd.snd.snd.fst)])
 fun (y1 : TSection × Bool) =>
 iteP (!y1.snd)
 (R (T.tup [T.v (Value.int IntKind.i64 0), T.v (Value.bool false)]))
 (iteP (decide (y1.fst.snd.snd.fst < 1))
 (R (T.tup [T.v (Value.int IntKind.i64 0), T.v (Value.bool false)]))
 (reqK (!decide (y1.fst.snd.snd.fst = 0))
 (R
 (T.tup
 [T.v
 (Value.int IntKind.i64
 (if 1 < IntKind.i64.wrap (Int.tdiv y1.fst.snd.fst y1.fst.snd.snd.fst) then
 IntKind.i64.wrap (Int.tdiv y1.fst.snd.fst y1.fst.snd.snd.fst)
 else 1)),
 T.v (Value.bool true)])))))
 (iteP (decide (y0.fst.snd.snd.fst = 3))
 (callK [(true, ySection), (false, Sy.bool)]
 (g_section
 [encV true yMaterials a1, T.v (Value.string y0.fst.snd.snd.snd.snd.snd.snd.snd.fst)])
 fun (y2 : TSection × Bool) =>
 iteP (!y2.snd)
 (R (T.tup [T.v (Value.int IntKind.i64 0), T.v (Value.bool false)]))
 (iteP (decide (y2.fst.snd.snd.fst < 1))
 (R (T.tup [T.v (Value.int IntKind.i64 0), T.v (Value.bool false)]))
 (reqK (!decide (y2.fst.snd.snd.fst = 0))
 (R
 (T.tup
 [T.v
 (Value.int IntKind.i64
 (if 1 < IntKind.i64.wrap (Int.tdiv y2.fst.snd.fst y2.fst.snd.snd.fst) then
 IntKind.i64.wrap (Int.tdiv y2.fst.snd.fst y2.fst.snd.snd.fst)
 else 1)),
 T.v (Value.bool true)])))))
 (R
 (T.tup
 [T.v (Value.int IntKind.i64 0),
 T.v (Value.bool (decide (y0.fst.snd.snd.fst = 4)))])))))
theorem F_thick0_eq (a0 : TDesign) (a1 : TMaterials) (a2 : ByteArray) (R : T → Prop) : sxTop stdC2 Tryz.prog E_thick0 H_thick0 8 52 [encV true yDesign a0, encV true yMaterials a1, encV false Sy.str a2] R = F_thick0 a0 a1 a2 R := by kernel_rfl
abbrev s_thick0 : Sh := [(true, yDesign), (true, yMaterials), (false, Sy.str)]
abbrev r_thick0 : Sh := [(false, Sy.int IntKind.i64), (false, Sy.bool)]
theorem r_thick0_call (y : Sh.den r_thick0) (K : Sh.den r_thick0 → Prop) : callK r_thick0 (some (Sh.enc r_thick0 y)) K = K y := callK_enc rfl y K

noncomputable def g_thick0 : List T → Option (T) := gS s_thick0 sp_thick0
theorem g_thick0_at {a0 : TDesign} {a1 : TMaterials} {a2 : ByteArray} : g_thick0 [encV true yDesign a0, encV true yMaterials a1, T.v (Value.string a2)] = sp_thick0 (a0, a1, a2) := gS_enc (s := s_thick0) rfl (a0, a1, a2) rfl
theorem g_thick0_op {u0 u1 u2 u3 u4 u5 u6 u7 u8} : g_thick0 [T.agg
    [T.v (Value.string u0), T.sl false (List.map yNode.enc u1),
      T.sl false (List.map yPart.enc u2),
      T.sl false (List.map ySeam.enc u3),
      T.sl false (List.map yPackage.enc u4),
      T.sl false (List.map yNeed.enc u5)],
  T.agg [T.sl false (List.map yGrade.enc u6), T.sl false (List.map ySection.enc u7)],
  T.v (Value.string u8)] = sp_thick0 ((u0, (u1, (u2, (u3, (u4, u5))))), (u6, u7), u8) := gS_enc (s := s_thick0) rfl ((u0, (u1, (u2, (u3, (u4, u5))))), (u6, u7), u8) rfl
theorem of_thick0 (h : ∀ (a0 : TDesign) (a1 : TMaterials) (a2 : ByteArray) (r : T), sp_thick0 (a0, a1, a2) = some r → BdSh s_thick0 (a0, a1, a2) → F_thick0 a0 a1 a2 (fun y => y = r)) : PureFn Tryz.prog 52 g_thick0 :=
  pureFn_S (E := E_thick0) (Hs := H_thick0) Eok_thick0 mixed' plain' (noHeap_of rfl) 8 ⟨_, _, Tryz.func52, rfl⟩ rfl fun x r h1 h2 => by
    obtain ⟨a0, a1, a2⟩ := x
    rw [show Sh.encs s_thick0 (a0, a1, a2) = [encV true yDesign a0, encV true yMaterials a1, encV false Sy.str a2] from rfl, F_thick0_eq]
    exact h a0 a1 a2 r h1 h2

theorem fn_thick0 : PureFn Tryz.prog 52 g_thick0 := of_thick0 fun d m id r h hb => by
  obtain ⟨hok, rfl⟩ := onlyD_of h
  unfold F_thick0
  simp only [g_partD_at, sp_partD, sp_part, hok, r_partD_call, g_section_at, sp_section, r_section_call]
  cases hp : partOf d id with
  | none => simp [found, iteP_def, thick0, pKind, pThick, hp, Sh.enc, Sh.encs, encV, Sy.enc, hdT]
  | some p =>
    by_cases c1 : p.2.2.1 = 1
    · simp [found, iteP_def, thick0, pKind, pThick, hp, Sh.enc, Sh.encs, encV, Sy.enc, hdT, c1]
    cases hs : secOf m (pSec p) with
    | none => by_cases c2 : p.2.2.1 = 2 <;> by_cases c3 : p.2.2.1 = 3 <;> simp [found, iteP_def, thick0, pKind, pThick, hp, hs, Sh.enc, Sh.encs, encV, Sy.enc, hdT, c1, c2, c3] <;> rfl
    | some s =>
      by_cases ch : s.2.2.1 < 1
      · by_cases c2 : p.2.2.1 = 2 <;> by_cases c3 : p.2.2.1 = 3 <;> simp [found, iteP_def, thick0, pKind, pThick, hp, hs, Sh.enc, Sh.encs, encV, Sy.enc, hdT, c1, c2, c3, ch] <;> rfl
      · have h0 : ¬ s.2.2.1 = 0 := by omega
        by_cases c2 : p.2.2.1 = 2 <;> by_cases c3 : p.2.2.1 = 3 <;> simp [found, iteP_def, thick0, pKind, pThick, hp, hs, Sh.enc, Sh.encs, encV, Sy.enc, hdT, c1, c2, c3, ch, h0, reqK, secThick] <;> rfl
set_option maxRecDepth 100000
noncomputable def E_fitting : Env := Env.of [(25, .pure g_partD)]
def H_fitting : FuncId → Hint := fun _ => noHint
theorem Eok_fitting : EnvOk Tryz.prog E_fitting := EnvOk.cons (x := .pure g_partD) fn_partD (EnvOk.nil _)
def F_fitting (a0 : TDesign) (a1 : ByteArray) (R : T → Prop) : Prop :=
 callK [(true, yPart), (false, Sy.bool)]
 (g_partD [encV true yDesign a0, T.v (Value.string a1)]) fun (y0 : TPart × Bool) =>
 R (T.v (Value.bool (decide (y0.fst.snd.snd.fst = 4))))
theorem F_fitting_eq (a0 : TDesign) (a1 : ByteArray) (R : T → Prop) : sxTop stdC2 Tryz.prog E_fitting H_fitting 8 53 [encV true yDesign a0, encV false Sy.str a1] R = F_fitting a0 a1 R := by kernel_rfl
abbrev s_fitting : Sh := [(true, yDesign), (false, Sy.str)]
abbrev r_fitting : Sh := [(false, Sy.bool)]
theorem r_fitting_call (y : Sh.den r_fitting) (K : Sh.den r_fitting → Prop) : callK r_fitting (some (Sh.enc r_fitting y)) K = K y := callK_enc rfl y K

noncomputable def g_fitting : List T → Option (T) := gS s_fitting sp_fitting
theorem g_fitting_at {a0 : TDesign} {a1 : ByteArray} : g_fitting [encV true yDesign a0, T.v (Value.string a1)] = sp_fitting (a0, a1) := gS_enc (s := s_fitting) rfl (a0, a1) rfl
theorem g_fitting_op {u0 u1 u2 u3 u4 u5 u6} : g_fitting [T.agg
    [T.v (Value.string u0), T.sl false (List.map yNode.enc u1),
      T.sl false (List.map yPart.enc u2),
      T.sl false (List.map ySeam.enc u3),
      T.sl false (List.map yPackage.enc u4),
      T.sl false (List.map yNeed.enc u5)],
  T.v (Value.string u6)] = sp_fitting ((u0, (u1, (u2, (u3, (u4, u5))))), u6) := gS_enc (s := s_fitting) rfl ((u0, (u1, (u2, (u3, (u4, u5))))), u6) rfl
theorem of_fitting (h : ∀ (a0 : TDesign) (a1 : ByteArray) (r : T), sp_fitting (a0, a1) = some r → BdSh s_fitting (a0, a1) → F_fitting a0 a1 (fun y => y = r)) : PureFn Tryz.prog 53 g_fitting :=
  pureFn_S (E := E_fitting) (Hs := H_fitting) Eok_fitting mixed' plain' (noHeap_of rfl) 8 ⟨_, _, Tryz.func53, rfl⟩ rfl fun x r h1 h2 => by
    obtain ⟨a0, a1⟩ := x
    rw [show Sh.encs s_fitting (a0, a1) = [encV true yDesign a0, encV false Sy.str a1] from rfl, F_fitting_eq]
    exact h a0 a1 r h1 h2

theorem fn_fitting : PureFn Tryz.prog 53 g_fitting := of_fitting fun d id r h hb => by
  obtain ⟨hok, rfl⟩ := onlyD_of h
  unfold F_fitting
  simp only [g_partD_at, sp_partD, hok, r_partD_call, sp_part]
  cases hp : partOf d id <;> simp [found, fitting, hp, noPart, Sh.enc, encV, Sy.enc, hdT] <;> rfl
set_option maxRecDepth 100000
noncomputable def E_thick : Env := Env.of [(23, .pure g_seam), (52, .pure g_thick0), (53, .pure g_fitting)]
def H_thick : FuncId → Hint := fun _ => noHint
theorem Eok_thick : EnvOk Tryz.prog E_thick := EnvOk.cons (x := .pure g_seam) fn_seam (EnvOk.cons (x := .pure g_thick0) fn_thick0 (EnvOk.cons (x := .pure g_fitting) fn_fitting (EnvOk.nil _)))
def F_thick (a0 : TDesign) (a1 : TMaterials) (a2 : ByteArray) (R : T → Prop) : Prop :=
 callK [(true, ySeam), (false, Sy.bool)]
 (g_seam [encV true yDesign a0, T.v (Value.string a2)]) fun (y0 : TSeam × Bool) =>
 iteP (!y0.snd) (R (T.tup [T.v (Value.int IntKind.i64 0), T.v (Value.bool false)]))
 (callK [(false, Sy.int IntKind.i64), (false, Sy.bool)]
 (g_thick0
 [encV true yDesign a0, encV true yMaterials a1,
 T.v (Value.string y0.fst.snd.fst)])
 fun (y1 : Int × Bool) =>
 callK [(false, Sy.int IntKind.i64), (false, Sy.bool)]
 (g_thick0
 [encV true yDesign a0, encV true yMaterials a1,
 T.v (Value.string y0.fst.snd.snd.fst)])
 fun (y2 : Int × Bool) =>
 iteP (!y1.snd)
 (R (T.tup [T.v (Value.int IntKind.i64 0), T.v (Value.bool false)]))
 (iteP (!y2.snd)
 (R (T.tup [T.v (Value.int IntKind.i64 0), T.v (Value.bool false)]))
 (callK [(false, Sy.bool)]
 (g_fitting [encV true yDesign a0, T.v (Value.string y0.fst.snd.fst)])
 fun (y3 : Bool) =>
 iteP y3
 (R (T.tup [T.v (Value.int IntKind.i64 y2.fst), T.v (Value.bool true)]))
 (callK [(false, Sy.bool)]
 (g_fitting [encV true yDesign a0, T.v (Value.string y0.fst.snd.snd.fst)])
 fun (y4 : Bool) =>
 iteP y4
 (R (T.tup [T.v (Value.int IntKind.i64 y1.fst), T.v (Value.bool true)]))
 (R
 (T.tup
 [T.v (Value.int IntKind.i64 (if y2.fst < y1.fst then y2.fst else y1.fst)),
 T.v (Value.bool true)]))))))
theorem F_thick_eq (a0 : TDesign) (a1 : TMaterials) (a2 : ByteArray) (R : T → Prop) : sxTop stdC2 Tryz.prog E_thick H_thick 8 24 [encV true yDesign a0, encV true yMaterials a1, encV false Sy.str a2] R = F_thick a0 a1 a2 R := by kernel_rfl
abbrev s_thick : Sh := [(true, yDesign), (true, yMaterials), (false, Sy.str)]
abbrev r_thick : Sh := [(false, Sy.int IntKind.i64), (false, Sy.bool)]
theorem r_thick_call (y : Sh.den r_thick) (K : Sh.den r_thick → Prop) : callK r_thick (some (Sh.enc r_thick y)) K = K y := callK_enc rfl y K

noncomputable def g_thick : List T → Option (T) := gS s_thick sp_thick
theorem g_thick_at {a0 : TDesign} {a1 : TMaterials} {a2 : ByteArray} : g_thick [encV true yDesign a0, encV true yMaterials a1, T.v (Value.string a2)] = sp_thick (a0, a1, a2) := gS_enc (s := s_thick) rfl (a0, a1, a2) rfl
theorem g_thick_op {u0 u1 u2 u3 u4 u5 u6 u7 u8} : g_thick [T.agg
    [T.v (Value.string u0), T.sl false (List.map yNode.enc u1),
      T.sl false (List.map yPart.enc u2),
      T.sl false (List.map ySeam.enc u3),
      T.sl false (List.map yPackage.enc u4),
      T.sl false (List.map yNeed.enc u5)],
  T.agg [T.sl false (List.map yGrade.enc u6), T.sl false (List.map ySection.enc u7)],
  T.v (Value.string u8)] = sp_thick ((u0, (u1, (u2, (u3, (u4, u5))))), (u6, u7), u8) := gS_enc (s := s_thick) rfl ((u0, (u1, (u2, (u3, (u4, u5))))), (u6, u7), u8) rfl
theorem of_thick (h : ∀ (a0 : TDesign) (a1 : TMaterials) (a2 : ByteArray) (r : T), sp_thick (a0, a1, a2) = some r → BdSh s_thick (a0, a1, a2) → F_thick a0 a1 a2 (fun y => y = r)) : PureFn Tryz.prog 24 g_thick :=
  pureFn_S (E := E_thick) (Hs := H_thick) Eok_thick mixed' plain' (noHeap_of rfl) 8 ⟨_, _, Tryz.func24, rfl⟩ rfl fun x r h1 h2 => by
    obtain ⟨a0, a1, a2⟩ := x
    rw [show Sh.encs s_thick (a0, a1, a2) = [encV true yDesign a0, encV true yMaterials a1, encV false Sy.str a2] from rfl, F_thick_eq]
    exact h a0 a1 a2 r h1 h2

theorem fn_thick : PureFn Tryz.prog 24 g_thick := of_thick fun d m id r h hb => by
  obtain ⟨hok, rfl⟩ := onlyD_of h
  unfold F_thick
  simp only [g_seam_at, sp_seam, r_seam_call, g_thick0_at, sp_thick0, onlyD_ok _ hok, r_thick0_call, g_fitting_at, sp_fitting, r_fitting_call]
  cases hs : seamOf d id with
  | none => simp [found, iteP_def, thick, hs, Sh.enc, Sh.encs, encV, Sy.enc, hdT]
  | some s =>
    simp only [found, thick, hs]
    cases h1 : (thick0 d m s.2.1).2 <;> cases h2 : (thick0 d m s.2.2.1).2 <;> cases h3 : fitting d s.2.1 <;> cases h4 : fitting d s.2.2.1 <;> simp [iteP_def, Sh.enc, Sh.encs, encV, Sy.enc, hdT] <;> rfl
end Go.Pv
set_option linter.unusedSimpArgs false
set_option linter.unusedVariables false
set_option maxRecDepth 100000
namespace Go.Pv
open Go Go.Proofs
def hasS (l : List ByteArray) (x : ByteArray) : Bool := l.any fun y => decide (y = x)
def sp_contains (x : List ByteArray × ByteArray) : Option T := some (Sh.enc r_b (hasS x.1 x.2))
set_option maxRecDepth 100000
noncomputable def E_contains : Env := Env.of []
def H_contains : FuncId → Hint := fun f => match f == 74 with | true => ⟨fun r => match r == 2 with | true => .inv [.val 8 false (.int .i64)] | false => .none, fun _ _ => none, fun _ => none⟩ | false => noHint
theorem Eok_contains : EnvOk Tryz.prog E_contains := EnvOk.nil _
def F_contains (a0 : List ByteArray) (a1 : ByteArray) (R : T → Prop) : Prop :=
 loopK (Int × PUnit)
 (fun (X0 : Int × PUnit → Prop) (s1 : Int × PUnit) =>
 iteP (decide (s1.fst < (↑(List.map Sy.str.enc a0).length : Int)))
 (rowsK Sy.str (List.map Sy.str.enc a0) s1.fst fun (y2 : ByteArray) =>
 iteP (decide (a1 = y2)) (R (T.v (Value.bool (decide (0 ≤ s1.fst)))))
 (X0 (IntKind.i64.wrap (s1.fst + 1), ())))
 (R (T.v (Value.bool false))))
 (0, ())
theorem F_contains_eq (a0 : List ByteArray) (a1 : ByteArray) (R : T → Prop) : sxTop stdC2 Tryz.prog E_contains H_contains 8 51 [encV false Sy.str.li a0, encV false Sy.str a1] R = F_contains a0 a1 R := by kernel_rfl
abbrev s_contains : Sh := [(false, Sy.str.li), (false, Sy.str)]
abbrev r_contains : Sh := [(false, Sy.bool)]
theorem r_contains_call (y : Sh.den r_contains) (K : Sh.den r_contains → Prop) : callK r_contains (some (Sh.enc r_contains y)) K = K y := callK_enc rfl y K

noncomputable def g_contains : List T → Option (T) := gS s_contains sp_contains
theorem g_contains_at {a0 : List ByteArray} {a1 : ByteArray} : g_contains [T.sl false (List.map Sy.str.enc a0), T.v (Value.string a1)] = sp_contains (a0, a1) := gS_enc (s := s_contains) rfl (a0, a1) rfl
theorem g_contains_op {u0 u1} : g_contains [T.sl false (List.map Sy.str.enc u0), T.v (Value.string u1)] = sp_contains (u0, u1) := gS_enc (s := s_contains) rfl (u0, u1) rfl
theorem of_contains (h : ∀ (a0 : List ByteArray) (a1 : ByteArray) (r : T), sp_contains (a0, a1) = some r → BdSh s_contains (a0, a1) → F_contains a0 a1 (fun y => y = r)) : PureFn Tryz.prog 51 g_contains :=
  pureFn_S (E := E_contains) (Hs := H_contains) Eok_contains mixed' plain' (noHeap_of rfl) 8 ⟨_, _, Tryz.func51, rfl⟩ rfl fun x r h1 h2 => by
    obtain ⟨a0, a1⟩ := x
    rw [show Sh.encs s_contains (a0, a1) = [encV false Sy.str.li a0, encV false Sy.str a1] from rfl, F_contains_eq]
    exact h a0 a1 r h1 h2

theorem any_drop {α : Type} {p : α → Bool} {l : List α} {k : Nat} (h : k < l.length) : (l.drop k).any p = (p l[k] || (l.drop (k + 1)).any p) := by rw [List.drop_eq_getElem_cons h, List.any_cons]
theorem fn_contains : PureFn Tryz.prog 51 g_contains := of_contains fun l x r h hb => by
  have h' : some (Sh.enc r_b (hasS l x)) = some r := h
  cases h'
  clear h
  have hl : l.length ≤ 2 ^ 47 := hb.1.1
  unfold F_contains
  refine loopK_ix l.length (fun k s => s = ((k : Int), ()) ∧ hasS l x = (l.drop k).any fun y => decide (y = x)) ⟨rfl, rfl⟩ ?_
  rintro X k s hk ⟨rfl, he⟩ hX
  dsimp only
  by_cases hlt : k < l.length
  · rw [any_drop hlt] at he
    refine iteP_yes (by simp [hlt]) ?_
    rw [rowsK_at (r := .str) hlt]
    by_cases h1 : l[k] = x
    · refine iteP_yes h1.symm ?_
      rw [he, decide_eq_true h1]
      simp [Sh.enc, encV, Sy.enc, hdT]
    · refine iteP_no (fun e => h1 e.symm) ?_
      rw [decide_eq_false h1, Bool.false_or] at he
      exact hX _ hlt ⟨by rw [show IntKind.i64.wrap ((k : Int) + 1) = ((k + 1 : Nat) : Int) from wrap_id _ (by omega) (by omega)], he⟩
  · have : k = l.length := by omega
    subst this
    refine iteP_no (by simp) ?_
    rw [he]
    simp [Sh.enc, encV, Sy.enc, hdT]
end Go.Pv
set_option linter.unusedSimpArgs false
set_option linter.unusedVariables false
set_option maxRecDepth 100000
namespace Go.Pv
open Go Go.Proofs
def lackE (p : TProcedure) (g : ByteArray) : Int := if hasS p.2.2.2.2.1 g = true then 0 else 23
def fitsE (p : TProcedure) (k t : Int) (l : List ByteArray) : Int :=
  if k = p.2.1 then if p.2.2.1 ≤ t then if t ≤ p.2.2.2.1 then firstE (lackE p) l else 9 else 9 else 10
set_option maxRecDepth 100000
noncomputable def E_pfits : Env := Env.of [(51, .pure g_contains)]
def H_pfits : FuncId → Hint := fun f => match f == 21 with | true => ⟨fun r => match r == 6 with | true => .inv [.val 24 false (.int .i64)] | false => .none, fun _ _ => none, fun _ => none⟩ | false => noHint
theorem Eok_pfits : EnvOk Tryz.prog E_pfits := EnvOk.cons (x := .pure g_contains) fn_contains (EnvOk.nil _)
def F_pfits (a0 : TProcedure) (a1 : Int) (a2 : Int) (a3 : List ByteArray) (R : T → Prop) : Prop :=
 iteP (!decide (a1 = a0.snd.fst)) (R (T.v (Value.int IntKind.i64 10)))
 (iteP (decide (a0.snd.snd.fst ≤ a2))
 (iteP (!decide (a2 ≤ a0.snd.snd.snd.fst)) (R (T.v (Value.int IntKind.i64 9)))
 (loopK (Int × PUnit)
 (fun (X0 : Int × PUnit → Prop) (s1 : Int × PUnit) =>
 iteP (decide (s1.fst < (↑(List.map Sy.str.enc a3).length : Int)))
 (rowsK Sy.str (List.map Sy.str.enc a3) s1.fst fun (y2 : ByteArray) =>
 callK [(false, Sy.bool)]
 (g_contains
 [T.sl false (List.map Sy.str.enc a0.snd.snd.snd.snd.fst), T.v (Value.string y2)])
 fun (y3 : Bool) =>
 iteP (!y3) (R (T.v (Value.int IntKind.i64 23)))
 (X0 (IntKind.i64.wrap (s1.fst + 1), ())))
 (R (T.v (Value.int IntKind.i64 0))))
 (0, ())))
 (R (T.v (Value.int IntKind.i64 9))))
theorem F_pfits_eq (a0 : TProcedure) (a1 : Int) (a2 : Int) (a3 : List ByteArray) (R : T → Prop) : sxTop stdC2 Tryz.prog E_pfits H_pfits 8 21 [encV true yProcedure a0, encV false (Sy.int IntKind.i64) a1,
  encV false (Sy.int IntKind.i64) a2, encV false Sy.str.li a3] R = F_pfits a0 a1 a2 a3 R := by kernel_rfl
abbrev s_pfits : Sh := [(true, yProcedure), (false, (Sy.int IntKind.i64)), (false, (Sy.int IntKind.i64)), (false, Sy.str.li)]
abbrev r_pfits : Sh := [(false, Sy.int IntKind.i64)]
theorem r_pfits_call (y : Sh.den r_pfits) (K : Sh.den r_pfits → Prop) : callK r_pfits (some (Sh.enc r_pfits y)) K = K y := callK_enc rfl y K

def sp_pfits (x : TProcedure × Int × Int × List ByteArray) : Option T := some (T.v (Value.int .i64 (fitsE x.1 x.2.1 x.2.2.1 x.2.2.2)))
noncomputable def g_pfits : List T → Option (T) := gS s_pfits sp_pfits
theorem g_pfits_at {a0 : TProcedure} {a1 : Int} {a2 : Int} {a3 : List ByteArray} : g_pfits [encV true yProcedure a0, T.v (Value.int IntKind.i64 a1),
  T.v (Value.int IntKind.i64 a2), T.sl false (List.map Sy.str.enc a3)] = sp_pfits (a0, a1, a2, a3) := gS_enc (s := s_pfits) rfl (a0, a1, a2, a3) rfl
theorem g_pfits_op {u0 u1 u2 u3 u4 u5 u6 u7 u8} : g_pfits [T.agg
    [T.v (Value.string u0), T.v (Value.int IntKind.i64 u1),
      T.v (Value.int IntKind.i64 u2),
      T.v (Value.int IntKind.i64 u3),
      T.sl false (List.map Sy.str.enc u4),
      T.v (Value.int IntKind.i64 u5)],
  T.v (Value.int IntKind.i64 u6), T.v (Value.int IntKind.i64 u7),
  T.sl false (List.map Sy.str.enc u8)] = sp_pfits ((u0, (u1, (u2, (u3, (u4, u5))))), u6, u7, u8) := gS_enc (s := s_pfits) rfl ((u0, (u1, (u2, (u3, (u4, u5))))), u6, u7, u8) rfl
theorem of_pfits (h : ∀ (a0 : TProcedure) (a1 : Int) (a2 : Int) (a3 : List ByteArray) (r : T), sp_pfits (a0, a1, a2, a3) = some r → BdSh s_pfits (a0, a1, a2, a3) → F_pfits a0 a1 a2 a3 (fun y => y = r)) : PureFn Tryz.prog 21 g_pfits :=
  pureFn_S (E := E_pfits) (Hs := H_pfits) Eok_pfits mixed' plain' (noHeap_of rfl) 8 ⟨_, _, Tryz.func21, rfl⟩ rfl fun x r h1 h2 => by
    obtain ⟨a0, a1, a2, a3⟩ := x
    rw [show Sh.encs s_pfits (a0, a1, a2, a3) = [encV true yProcedure a0, encV false (Sy.int IntKind.i64) a1,
  encV false (Sy.int IntKind.i64) a2, encV false Sy.str.li a3] from rfl, F_pfits_eq]
    exact h a0 a1 a2 a3 r h1 h2

theorem fn_pfits : PureFn Tryz.prog 21 g_pfits := of_pfits fun p k t l r h hb => by
  have hl : l.length ≤ 2 ^ 47 := hb.2.2.2.1
  cases h
  unfold F_pfits
  have is : ∀ {n : Int}, fitsE p k t l = n → T.v (Value.int .i64 n) = T.v (Value.int .i64 (fitsE p k t l)) := fun h => by rw [h]
  refine ifQ (fun h => is (by unfold fitsE; rw [if_neg h])) fun hk => ?_
  refine ifP (fun h1 => ?_) fun h1 => is (by unfold fitsE; rw [if_pos hk, if_neg h1])
  refine ifQ (fun h => is (by unfold fitsE; rw [if_pos hk, if_pos h1, if_neg h])) fun h2 => ?_
  have w : fitsE p k t l = firstE (lackE p) l := by unfold fitsE; rw [if_pos hk, if_pos h1, if_pos h2]
  refine first_loop (r := .str) (lackE p) hl (fun X s y hy h1 h2 => ?_) fun h => is (w.trans h)
  refine callK_some (s := [(false, .bool)]) (y := hasS p.2.2.2.2.1 y) (g_contains_at ..) ?_
  refine ifNB (fun h => ?_) fun h => h1 (by unfold lackE; rw [if_pos h])
  have e : lackE p y = 23 := by unfold lackE; rw [if_neg (by rw [h]; decide)]
  exact is ((w.trans (h2 (by omega))).trans e)
noncomputable def g_pfitsD : List T → Option T := gD g_pfits
theorem fn_pfitsD : PureFn Tryz.prog 21 g_pfitsD := fn_pfits.deep
theorem pfitsD_call {p : TProcedure} {k t : Int} {l : List ByteArray} {L : T} (hL : T.deep 4 L = T.sl false (List.map Sy.str.enc l)) : g_pfitsD [encV true yProcedure p, T.v (Value.int .i64 k), T.v (Value.int .i64 t), L] = some (Sh.enc [(false, .int .i64)] (fitsE p k t l)) := by
  unfold g_pfitsD gD
  show g_pfits [T.deep 4 (encV true yProcedure p), T.v (Value.int .i64 k), T.v (Value.int .i64 t), T.deep 4 L] = _
  rw [show T.deep 4 (encV true yProcedure p) = encV true yProcedure p from deep_encV 3 (r := yProcedure) p rfl rfl, hL]
  exact g_pfits_at ..
set_option maxRecDepth 100000
noncomputable def E_pfor : Env := Env.of [(23, .pure g_seam), (24, .pure g_thick), (25, .pure g_partD), (21, .pure g_pfitsD)]
def H_pfor : FuncId → Hint := fun f => match f == 7 with | true => ⟨fun r => match r == 9 with | true => .unroll 4 | false => .none, fun _ _ => none, fun _ => none⟩ | false => noHint
theorem Eok_pfor : EnvOk Tryz.prog E_pfor := EnvOk.cons (x := .pure g_seam) fn_seam (EnvOk.cons (x := .pure g_thick) fn_thick (EnvOk.cons (x := .pure g_partD) fn_partD (EnvOk.cons (x := .pure g_pfitsD) fn_pfitsD (EnvOk.nil _))))
def F_pfor (a0 : TProcedure) (a1 : TDesign) (a2 : TMaterials) (a3 : ByteArray) (R : T → Prop) : Prop :=
 callK [(true, ySeam), (false, Sy.bool)]
 (g_seam [encV true yDesign a1, T.v (Value.string a3)]) fun (y0 : TSeam × Bool) =>
 iteP (!y0.snd) (R (T.v (Value.int IntKind.i64 8)))
 (callK [(false, Sy.int IntKind.i64), (false, Sy.bool)]
 (g_thick
 [encV true yDesign a1, encV true yMaterials a2, T.v (Value.string a3)])
 fun (y1 : Int × Bool) =>
 iteP (!y1.snd) (R (T.v (Value.int IntKind.i64 8)))
 (callK [(true, yPart), (false, Sy.bool)]
 (g_partD [encV true yDesign a1, T.v (Value.string y0.fst.snd.fst)])
 fun (y2 : TPart × Bool) =>
 iteP (!decide (y2.fst.snd.snd.fst = 4))
 (reqK true
 (callK [(true, yPart), (false, Sy.bool)]
 (g_partD [encV true yDesign a1, T.v (Value.string y0.fst.snd.snd.fst)])
 fun (y3 : TPart × Bool) =>
 iteP (!decide (y3.fst.snd.snd.fst = 4))
 (reqK true
 (callK [(false, Sy.int IntKind.i64)]
 (g_pfitsD
 [encV true yProcedure a0,
 T.v (Value.int IntKind.i64 y0.fst.snd.snd.snd.fst),
 T.v (Value.int IntKind.i64 y1.fst),
 T.sl false
 [[T.v (Value.string y2.fst.snd.snd.snd.snd.fst)],
 [T.v (Value.string y3.fst.snd.snd.snd.snd.fst)]]])
 fun (y4 : Int) => R (T.v (Value.int IntKind.i64 y4))))
 (callK [(false, Sy.int IntKind.i64)]
 (g_pfitsD
 [encV true yProcedure a0,
 T.v (Value.int IntKind.i64 y0.fst.snd.snd.snd.fst),
 T.v (Value.int IntKind.i64 y1.fst),
 T.sl false [[T.v (Value.string y2.fst.snd.snd.snd.snd.fst)]]])
 fun (y5 : Int) => R (T.v (Value.int IntKind.i64 y5)))))
 (callK [(true, yPart), (false, Sy.bool)]
 (g_partD [encV true yDesign a1, T.v (Value.string y0.fst.snd.snd.fst)])
 fun (y6 : TPart × Bool) =>
 iteP (!decide (y6.fst.snd.snd.fst = 4))
 (reqK true
 (callK [(false, Sy.int IntKind.i64)]
 (g_pfitsD
 [encV true yProcedure a0,
 T.v (Value.int IntKind.i64 y0.fst.snd.snd.snd.fst),
 T.v (Value.int IntKind.i64 y1.fst),
 T.sl false [[T.v (Value.string y6.fst.snd.snd.snd.snd.fst)]]])
 fun (y7 : Int) => R (T.v (Value.int IntKind.i64 y7))))
 (callK [(false, Sy.int IntKind.i64)]
 (g_pfitsD
 [encV true yProcedure a0,
 T.v (Value.int IntKind.i64 y0.fst.snd.snd.snd.fst),
 T.v (Value.int IntKind.i64 a0.snd.snd.fst), T.v (Value.slice none 0 0)])
 fun (y8 : Int) => R (T.v (Value.int IntKind.i64 y8))))))
theorem F_pfor_eq (a0 : TProcedure) (a1 : TDesign) (a2 : TMaterials) (a3 : ByteArray) (R : T → Prop) : sxTop stdC2 Tryz.prog E_pfor H_pfor 8 7 [encV true yProcedure a0, encV true yDesign a1, encV true yMaterials a2,
  encV false Sy.str a3] R = F_pfor a0 a1 a2 a3 R := by kernel_rfl
abbrev s_pfor : Sh := [(true, yProcedure), (true, yDesign), (true, yMaterials), (false, Sy.str)]
abbrev r_pfor : Sh := [(false, Sy.int IntKind.i64)]
theorem r_pfor_call (y : Sh.den r_pfor) (K : Sh.den r_pfor → Prop) : callK r_pfor (some (Sh.enc r_pfor y)) K = K y := callK_enc rfl y K

def gradeL (p : TPart) : List ByteArray := if p.2.2.1 = 4 then [] else [p.2.2.2.2.1]
def gradesL (d : TDesign) (s : TSeam) : List ByteArray := gradeL (found noPart (partOf d s.2.1)).1 ++ gradeL (found noPart (partOf d s.2.2.1)).1
def forE (p : TProcedure) (d : TDesign) (m : TMaterials) (id : ByteArray) : Int := match seamOf d id with
  | none => 8
  | some s => if (thick d m id).2 = true then fitsE p s.2.2.2.1 (if gradesL d s = [] then p.2.2.1 else (thick d m id).1) (gradesL d s) else 8
def sp_pfor (x : TProcedure × TDesign × TMaterials × ByteArray) : Option T := onlyD x.2.1 (T.v (Value.int .i64 (forE x.1 x.2.1 x.2.2.1 x.2.2.2)))
noncomputable def g_pfor : List T → Option (T) := gS s_pfor sp_pfor
theorem g_pfor_at {a0 : TProcedure} {a1 : TDesign} {a2 : TMaterials} {a3 : ByteArray} : g_pfor [encV true yProcedure a0, encV true yDesign a1, encV true yMaterials a2,
  T.v (Value.string a3)] = sp_pfor (a0, a1, a2, a3) := gS_enc (s := s_pfor) rfl (a0, a1, a2, a3) rfl
theorem g_pfor_op {u0 u1 u2 u3 u4 u5 u6 u7 u8 u9 u10 u11 u12 u13 u14} : g_pfor [T.agg
    [T.v (Value.string u0), T.v (Value.int IntKind.i64 u1),
      T.v (Value.int IntKind.i64 u2),
      T.v (Value.int IntKind.i64 u3),
      T.sl false (List.map Sy.str.enc u4),
      T.v (Value.int IntKind.i64 u5)],
  T.agg
    [T.v (Value.string u6), T.sl false (List.map yNode.enc u7),
      T.sl false (List.map yPart.enc u8),
      T.sl false (List.map ySeam.enc u9),
      T.sl false (List.map yPackage.enc u10),
      T.sl false (List.map yNeed.enc u11)],
  T.agg [T.sl false (List.map yGrade.enc u12), T.sl false (List.map ySection.enc u13)],
  T.v (Value.string u14)] = sp_pfor ((u0, (u1, (u2, (u3, (u4, u5))))), (u6, (u7, (u8, (u9, (u10, u11))))), (u12, u13), u14) := gS_enc (s := s_pfor) rfl ((u0, (u1, (u2, (u3, (u4, u5))))), (u6, (u7, (u8, (u9, (u10, u11))))), (u12, u13), u14) rfl
theorem of_pfor (h : ∀ (a0 : TProcedure) (a1 : TDesign) (a2 : TMaterials) (a3 : ByteArray) (r : T), sp_pfor (a0, a1, a2, a3) = some r → BdSh s_pfor (a0, a1, a2, a3) → F_pfor a0 a1 a2 a3 (fun y => y = r)) : PureFn Tryz.prog 7 g_pfor :=
  pureFn_S (E := E_pfor) (Hs := H_pfor) Eok_pfor mixed' plain' (noHeap_of rfl) 8 ⟨_, _, Tryz.func7, rfl⟩ rfl fun x r h1 h2 => by
    obtain ⟨a0, a1, a2, a3⟩ := x
    rw [show Sh.encs s_pfor (a0, a1, a2, a3) = [encV true yProcedure a0, encV true yDesign a1, encV true yMaterials a2,
  encV false Sy.str a3] from rfl, F_pfor_eq]
    exact h a0 a1 a2 a3 r h1 h2

theorem fn_pfor : PureFn Tryz.prog 7 g_pfor := of_pfor fun p d m id r h hb => by
  obtain ⟨hok, rfl⟩ := onlyD_of h
  replace hok : okD d = true := hok
  clear h
  have is : ∀ {n : Int}, forE p d m id = n → T.v (Value.int .i64 n) = T.v (Value.int .i64 (forE p d m id)) := fun h => by rw [h]
  unfold F_pfor
  refine callK_some (s := [(true, ySeam), (false, .bool)]) (y := found noSeam (seamOf d id)) (g_seam_at ..) ?_
  cases hs : seamOf d id with
  | none =>
    show iteP true _ _
    rw [iteP_t]
    exact is (by unfold forE; rw [hs])
  | some s =>
    show iteP false _ _
    rw [iteP_f]
    refine callK_some (s := [(false, .int .i64), (false, .bool)]) (y := thick d m id) ((g_thick_at ..).trans (onlyD_ok _ hok)) ?_
    have part : ∀ x, g_partD [encV true yDesign d, T.v (Value.string x)] = some (Sh.enc [(true, yPart), (false, .bool)] (found noPart (partOf d x))) := fun x => (g_partD_at ..).trans (by unfold sp_partD; dsimp only; rw [hok]; rfl)
    refine ifNB (fun ht => is (by unfold forE; rw [hs]; dsimp only; rw [if_neg (by rw [ht]; decide)])) fun ht => ?_
    have w : forE p d m id = fitsE p s.2.2.2.1 (if gradesL d s = [] then p.2.2.1 else (thick d m id).1) (gradesL d s) := by unfold forE; rw [hs]; dsimp only; rw [if_pos ht]
    dsimp only [found]
    refine callK_some (s := [(true, yPart), (false, .bool)]) (part s.2.1) ?_
    unfold gradesL at w
    generalize (found noPart (partOf d s.2.1)) = pa at w ⊢
    have tail : ∀ {l : List ByteArray} {L : T} {t : Int}, gradeL pa.1 ++ gradeL (found noPart (partOf d s.2.2.1)).1 = l → T.deep 4 L = T.sl false (List.map Sy.str.enc l) → (if l = [] then p.2.2.1 else (thick d m id).1) = t → callK [(false, Sy.int IntKind.i64)]
      (g_pfitsD [encV true yProcedure p, T.v (Value.int IntKind.i64 s.2.2.2.1), T.v (Value.int IntKind.i64 t), L]) fun (y4 : Int) => T.v (Value.int IntKind.i64 y4) = T.v (Value.int .i64 (forE p d m id)) := by
      intro l L t h1 h2 h3
      refine callK_some (s := [(false, .int .i64)]) (pfitsD_call h2) (is ?_)
      rw [w, h1, h3]
    refine ifQ (fun ka => ?_) fun ka => ?_
    · refine ⟨rfl, ?_⟩
      refine callK_some (s := [(true, yPart), (false, .bool)]) (part s.2.2.1) ?_
      generalize (found noPart (partOf d s.2.2.1)) = pb at *
      refine ifQ (fun kb => ⟨rfl, tail (l := [_, _]) (by unfold gradeL; rw [if_neg ka, if_neg kb]; rfl) rfl rfl⟩) fun kb => tail (l := [_]) (by unfold gradeL; rw [if_neg ka, if_pos kb]; rfl) rfl rfl
    · refine callK_some (s := [(true, yPart), (false, .bool)]) (part s.2.2.1) ?_
      generalize (found noPart (partOf d s.2.2.1)) = pb at *
      refine ifQ (fun kb => ⟨rfl, tail (l := [_]) (by unfold gradeL; rw [if_pos ka, if_neg kb]; rfl) rfl rfl⟩) fun kb => tail (l := []) (by unfold gradeL; rw [if_pos ka, if_pos kb]; rfl) rfl rfl
noncomputable def g_pforD : List T → Option T := gD g_pfor
theorem fn_pforD : PureFn Tryz.prog 7 g_pforD := fn_pfor.deep
theorem pforD_call {p : TProcedure} {d : TDesign} {m : TMaterials} {id : ByteArray} (hok : okD d = true) {P : T} (hP : T.deep 4 P = encV true yProcedure p) : g_pforD [P, encV true yDesign d, encV true yMaterials m, T.v (Value.string id)] = some (Sh.enc [(false, .int .i64)] (forE p d m id)) := by
  unfold g_pforD gD
  show g_pfor [T.deep 4 P, T.deep 4 (encV true yDesign d), T.deep 4 (encV true yMaterials m), T.v (Value.string id)] = _
  rw [hP, deep_encV 3 (r := yDesign) d rfl rfl, deep_encV 3 (r := yMaterials) m rfl rfl]
  exact (g_pfor_at ..).trans (onlyD_ok _ hok)
theorem deep_strs (n : Nat) (l : List ByteArray) : (List.map Sy.str.enc l).map (fun r => r.map (T.deep n)) = List.map Sy.str.enc l := by
  rw [List.map_map]
  exact List.map_congr_left fun x _ => deep_enc n (r := .str) x rfl
end Go.Pv
set_option linter.unusedSimpArgs false
set_option linter.unusedVariables false
set_option maxRecDepth 100000
namespace Go.Pv
open Go Go.Proofs

/-- The nodes from a node up to its block. -/
def upF (d : TDesign) : Nat → ByteArray → List ByteArray → List ByteArray × Bool
  | 0, _, _ => ([], false)
  | n + 1, id, l => match nodeOf d id with
    | none => ([], false)
    | some x => if x.2.1 = 1 then (l ++ [id], true) else upF d n x.2.2 (l ++ [id])
def up (d : TDesign) (id : ByteArray) : List ByteArray × Bool := upF d 65 id []
def path0 (d : TDesign) (id : ByteArray) : List ByteArray := match nodeOf d id with
  | some _ => (up d id).1.reverse
  | none => match partOf d id with
    | some p => (up d (pNode p)).1.reverse
    | none => []
def pathOf (d : TDesign) (id : ByteArray) : List ByteArray := match partOf d id with
  | some p => path0 d (pNode p)
  | none => []
abbrev r_ls : Sh := [(false, .li .str)]
abbrev r_lsb : Sh := [(false, .li .str), (false, .bool)]
def sp_up (x : TDesign × ByteArray) : Option T := some (Sh.enc r_lsb (up x.1 x.2))
def sp_path0 (x : TDesign × ByteArray) : Option T := onlyD x.1 (Sh.enc r_ls (path0 x.1 x.2))
abbrev sp_path017 := sp_path0
def sp_path (x : TDesign × ByteArray) : Option T := onlyD x.1 (Sh.enc r_ls (pathOf x.1 x.2))
abbrev sp_path18 := sp_path
theorem upF_len {d : TDesign} : ∀ {n : Nat} {id : ByteArray} {l : List ByteArray}, (upF d n id l).1.length ≤ l.length + n
  | 0, _, _ => by simp [upF]
  | n + 1, id, l => by
    unfold upF
    cases nodeOf d id with
    | none => simp
    | some x =>
      by_cases hx : x.2.1 = 1
      · simp only [hx, if_true]
        simp
      · simp only [hx, if_false]
        have := upF_len (d := d) (n := n) (id := x.2.2) (l := l ++ [id])
        simp at this; omega
theorem up_len (d : TDesign) (id : ByteArray) : (up d id).1.length ≤ 65 := by have := upF_len (d := d) (n := 65) (id := id) (l := []); simpa [up] using this
/-- What an append of one string asks. -/
theorem app_ok {l : List ByteArray} (h : l.length ≤ 8000000000000) (K : Prop) : reqK (decide (((List.map Sy.str.enc l).length + 1) * 16 ≤ 140737488355328) && decide ((List.map Sy.str.enc l).length + 1 ≤ 140737488355328)) K = K := by
  have e : (decide (((List.map Sy.str.enc l).length + 1) * 16 ≤ 140737488355328) && decide ((List.map Sy.str.enc l).length + 1 ≤ 140737488355328)) = true := by
    simp only [List.length_map, Bool.and_eq_true, decide_eq_true_eq]
    omega
  rw [e]; simp [reqK]
theorem dec_snoc {l : List ByteArray} {x : ByteArray} (K : List ByteArray → Prop) : decK Sy.str (List.map Sy.str.enc l ++ [[T.v (Value.string x)]]) K = K (l ++ [x]) := decK_snoc (r := .str) rfl l _ x rfl K
theorem enc_snoc {l : List ByteArray} {x : ByteArray} : List.map Sy.str.enc l ++ [[T.v (Value.string x)]] = List.map Sy.str.enc (l ++ [x]) := by simp [Sy.enc]
theorem back_loop {ls : List ByteArray} (hl : ls.length ≤ 65) {R : T → Prop} (hR : R (T.sl false (List.map Sy.str.enc ls.reverse))) : loopK (List ByteArray × Int × PUnit)
        (fun (X8 : List ByteArray × Int × PUnit → Prop) (s9 : List ByteArray × Int × PUnit) =>
          iteP (decide (0 ≤ s9.snd.fst))
            (rowsK Sy.str (List.map Sy.str.enc ls) s9.snd.fst fun (y10 : ByteArray) =>
              reqK
                (decide (((List.map Sy.str.enc s9.fst).length + 1) * 16 ≤ 140737488355328) && decide ((List.map Sy.str.enc s9.fst).length + 1 ≤ 140737488355328))
                (decK Sy.str (List.map Sy.str.enc s9.fst ++ [[T.v (Value.string y10)]])
                  fun (y11 : List ByteArray) => X8 (y11, IntKind.i64.wrap (s9.snd.fst - 1), ())))
            (R (T.sl false (List.map Sy.str.enc s9.fst))))
        ([], IntKind.i64.wrap ((↑(List.map Sy.str.enc ls).length : Int) - 1), ()) := by
  refine loopK_ix ls.length (fun k s => s = (ls.reverse.take k, (ls.length : Int) - 1 - k, ())) ?_ ?_
  · simp only [List.take_zero, List.length_map, Prod.mk.injEq, and_true, true_and]
    rw [wrap_id _ (by omega) (by omega)]; simp
  rintro X k s hk rfl hX
  by_cases hlt : k < ls.length
  · have h1 : decide (0 ≤ (ls.length : Int) - 1 - k) = true := by simp; omega
    have e : (ls.length : Int) - 1 - k = ((ls.length - 1 - k : Nat) : Int) := by omega
    dsimp only
    rw [h1, e, rowsK_at (r := .str) (show ls.length - 1 - k < ls.length by omega), app_ok (by simp; omega), dec_snoc]
    simp only [iteP]
    refine hX _ hlt ?_
    have hg : ls.reverse.take (k + 1) = ls.reverse.take k ++ [ls[ls.length - 1 - k]] := by
      rw [List.take_succ_eq_append_getElem (by simpa using hlt)]
      simp
    rw [hg]
    simp only [Prod.mk.injEq, and_true, true_and]
    rw [wrap_id _ (by omega) (by omega)]; omega
  · have : k = ls.length := by omega
    subst this
    have h1 : decide (0 ≤ (ls.length : Int) - 1 - ls.length) = false := by simp; omega
    simp only [h1, iteP]
    rw [List.take_of_length_le (by simp)]
    exact hR
theorem app_ok' {l : List ByteArray} {x : ByteArray} (h : l.length ≤ 8000000000000) (K : Prop) : reqK (decide (1 = 1) && allW 1 [[T.v (Value.string x)]] && decide (((List.map Sy.str.enc l).length + [[T.v (Value.string x)].reverse].reverse.length) * 16 ≤ 140737488355328) && decide ((List.map Sy.str.enc l).length + [[T.v (Value.string x)].reverse].reverse.length ≤ 140737488355328)) K = K := by
  have e : (decide (1 = 1) && allW 1 [[T.v (Value.string x)]] && decide (((List.map Sy.str.enc l).length + [[T.v (Value.string x)].reverse].reverse.length) * 16 ≤ 140737488355328) && decide ((List.map Sy.str.enc l).length + [[T.v (Value.string x)].reverse].reverse.length ≤ 140737488355328)) = true := by
    simp only [List.length_map, Bool.and_eq_true, decide_eq_true_eq, List.length_reverse, List.length_cons, List.length_nil]
    refine ⟨⟨⟨trivial, rfl⟩, ?_⟩, ?_⟩ <;> omega
  rw [e]; simp [reqK]
theorem forth_loop {ls : List ByteArray} (hl : ls.length ≤ 65) {R : T → Prop} (hR : R (T.sl false (List.map Sy.str.enc ls.reverse))) : loopK (List ByteArray × Int × PUnit)
            (fun (X9 : List ByteArray × Int × PUnit → Prop) (s10 : List ByteArray × Int × PUnit) =>
              iteP (decide (s10.snd.fst < (↑(List.map Sy.str.enc ls).length : Int)))
                (rowsK Sy.str (List.map Sy.str.enc ls)
                  (IntKind.i64.wrap
                    (IntKind.i64.wrap ((↑(List.map Sy.str.enc ls).length : Int) - 1) - s10.snd.fst))
                  fun (y11 : ByteArray) =>
                  partK Sy.str (List.map Sy.str.enc ls)
                    (IntKind.i64.wrap
                        (IntKind.i64.wrap ((↑(List.map Sy.str.enc ls).length : Int) - 1) -
                          s10.snd.fst)).toNat
                    0 fun (y12 : ByteArray) =>
                    reqK
                      (decide (1 = 1) && allW 1 [[T.v (Value.string y12)]] &&
                          decide
                            (((List.map Sy.str.enc s10.fst).length +
                                  [[T.v (Value.string y12)].reverse].reverse.length) *
                                16 ≤
                              140737488355328) &&
                        decide
                          ((List.map Sy.str.enc s10.fst).length +
                              [[T.v (Value.string y12)].reverse].reverse.length ≤
                            140737488355328))
                      (decK Sy.str
                        (List.map Sy.str.enc s10.fst ++ [[T.v (Value.string y12)]])
                        fun (y13 : List ByteArray) => X9 (y13, IntKind.i64.wrap (s10.snd.fst + 1), ())))
                (R (T.sl false (List.map Sy.str.enc s10.fst))))
            ([], 0, ()) := by
  refine loopK_ix ls.length (fun k s => s = (ls.reverse.take k, (k : Int), ())) (by simp) ?_
  rintro X k s hk rfl hX
  by_cases hlt : k < ls.length
  · have h1 : decide ((k : Int) < ((List.map Sy.str.enc ls).length : Int)) = true := by simp; omega
    have e : IntKind.i64.wrap (IntKind.i64.wrap (((List.map Sy.str.enc ls).length : Int) - 1) - k) = ((ls.length - 1 - k : Nat) : Int) := by
      rw [List.length_map, wrap_id ((ls.length : Int) - 1) (by omega) (by omega), wrap_id _ (by omega) (by omega)]; omega
    have hlt2 : ls.length - 1 - k < ls.length := by omega
    dsimp only
    rw [h1, e, rowsK_at (r := .str) hlt2, Int.toNat_natCast, partK_at (r := .str) hlt2, app_ok' (by simp; omega), dec_snoc, iteP_t]
    refine hX _ hlt ?_
    have hg : ls.reverse.take (k + 1) = ls.reverse.take k ++ [ls[ls.length - 1 - k]] := by
      rw [List.take_succ_eq_append_getElem (by simpa using hlt)]
      simp
    rw [hg]
    simp only [Prod.mk.injEq, and_true, true_and]
    exact wrap_id _ (by omega) (by omega)
  · have : k = ls.length := by omega
    subst this
    have h1 : decide ((ls.length : Int) < ((List.map Sy.str.enc ls).length : Int)) = false := by simp
    simp only [h1, iteP_f]
    rw [List.take_of_length_le (by simp)]
    exact hR
end Go.Pv
set_option linter.unusedSimpArgs false
set_option linter.unusedVariables false
set_option maxRecDepth 100000
namespace Go.Pv
open Go Go.Proofs
def memB (l : List ByteArray) (x : ByteArray) : Bool := l.any fun y => decide (y = x)
theorem memB_iff {l : List ByteArray} {x : ByteArray} : memB l x = true ↔ x ∈ l := by
  simp only [memB, List.any_eq_true, decide_eq_true_eq]
  exact ⟨fun ⟨y, h, e⟩ => e ▸ h, fun h => ⟨x, h, rfl⟩⟩
def Sy.tl : Sy → Sy
  | .pr _ b => b
  | x => x
/-- The index of a list of identifiers. -/
def ixOf : List ByteArray → Nat → List (ByteArray × Int) → List (ByteArray × Int)
  | [], _, es => es
  | a :: l, i, es => ixOf l (i + 1) (match getL es a with
    | none => insL es a (i : Int)
    | some _ => es)
def ixs (l : List ByteArray) : List (ByteArray × Int) := ixOf l 0 []
def ids {α : Type} (l : List (ByteArray × α)) : List ByteArray := l.map fun x => x.1
def onlyL {α β : Type} (l : List α) (r : β) : Option β := match decide (l.length ≤ 140737488355328) with
  | true => some r
  | false => none
theorem onlyL_of {α β : Type} {l : List α} {t r : β} (h : onlyL l t = some r) : l.length ≤ 140737488355328 ∧ r = t := by
  unfold onlyL at h; split at h
  · rename_i hc
    cases h; exact ⟨of_decide_eq_true hc, rfl⟩
  · cases h
theorem onlyL_ok {α β : Type} {l : List α} (t : β) (h : l.length ≤ 140737488355328) : onlyL l t = some t := by unfold onlyL; rw [decide_eq_true h]
theorem encM_eS (es : List (ByteArray × Int)) : List.map (fun (e : Value × D) => (e.fst, unPD e.snd)) (List.map (encE Sy.str false (Sy.int IntKind.i64)) es) = encM es := by
  rw [List.map_map]; rfl
theorem ix_loop {r : Sy} {l : List (ByteArray × r.den)} (hl : l.length ≤ 140737488355328) :
  decMK Sy.str false (Sy.int IntKind.i64) [] fun (y0 : List (ByteArray × Int)) =>
  loopK (List (ByteArray × Int) × Int × PUnit)
    (fun (X1 : List (ByteArray × Int) × Int × PUnit → Prop) (s2 : List (ByteArray × Int) × Int × PUnit) =>
      iteP (decide (s2.snd.fst < (↑l.length : Int)))
        (rowsK (.pr .str r) (List.map (Sy.pr .str r).enc l) s2.snd.fst fun (y3 : ByteArray × r.den) =>
          findK TypeDesc.string (Value.string y3.fst)
            (List.map (encE Sy.str false (Sy.int IntKind.i64)) s2.fst) false
            (Sy.int IntKind.i64)
            (rowsK (.pr .str r) (List.map (Sy.pr .str r).enc l) s2.snd.fst fun (y7 : ByteArray × r.den) =>
              optK (Option (Nat × D))
                (findD TypeDesc.string (Value.string y7.fst)
                  (List.map (encE Sy.str false (Sy.int IntKind.i64)) s2.fst) 0)
                fun (y8 : Option (Nat × D)) =>
                decMK Sy.str false (Sy.int IntKind.i64)
                  (setEnt (List.map (encE Sy.str false (Sy.int IntKind.i64)) s2.fst) y8
                    (Value.string y7.fst) (D.p (T.v (Value.int IntKind.i64 s2.snd.fst))))
                  fun (y9 : List (ByteArray × Int)) => X1 (y9, IntKind.i64.wrap (s2.snd.fst + 1), ()))
            fun (i4 : Nat) (y5 : Int) =>
            decMK Sy.str false (Sy.int IntKind.i64)
              (List.map (encE Sy.str false (Sy.int IntKind.i64)) s2.fst)
              fun (y6 : List (ByteArray × Int)) => X1 (y6, IntKind.i64.wrap (s2.snd.fst + 1), ()))
        (reqK
          ((List.map (encE Sy.str false (Sy.int IntKind.i64)) s2.fst).all
            fun (e : Value × D) => isPD e.snd)
          ((fun y => y = T.mp (encM (ixs (ids l))))
            (T.mp
              (List.map (fun (e : Value × D) => (e.fst, unPD e.snd))
                (List.map (encE Sy.str false (Sy.int IntKind.i64)) s2.fst))))))
    (y0, 0, ()) := by
  refine decMK_eS (r := .int .i64) rfl [] _ ?_
  refine loopK_ix l.length (fun k s => ∃ es, s = (es, (k : Int), ()) ∧ ixOf (ids (l.drop k)) k es = ixs (ids l)) ⟨[], rfl, rfl⟩ ?_
  rintro X k s hk ⟨es, rfl, hes⟩ hX
  dsimp only
  have hw : IntKind.i64.wrap ((k : Int) + 1) = ((k + 1 : Nat) : Int) := wrap_id _ (by omega) (by omega)
  by_cases hlt : k < l.length
  · refine iteP_yes (by omega) ?_
    rw [rowsK_at (r := .pr .str r) hlt]
    have hd : ids (l.drop k) = l[k].1 :: ids (l.drop (k + 1)) := by rw [List.drop_eq_getElem_cons hlt]; rfl
    rw [hd] at hes
    simp only [ixOf] at hes
    refine findK_S (r := .int .i64) (fun hno => ?_) (fun i v hv => ?_)
    · rw [hno] at hes
      rw [rowsK_at (r := .pr .str r) hlt]
      exact ins_S (r := .int .i64) rfl (v := (k : Int)) (hX _ hlt ⟨_, by rw [hw], hes⟩)
    · rw [hv] at hes
      exact decMK_eS (r := .int .i64) rfl es _ (hX _ hlt ⟨_, by rw [hw], hes⟩)
  · have : k = l.length := by omega
    subst this
    refine iteP_no (by omega) ?_
    rw [List.drop_length] at hes
    refine ⟨?_, ?_⟩
    · rw [List.all_eq_true]
      intro e he
      obtain ⟨x, _, rfl⟩ := List.mem_map.1 he
      rfl
    · show T.mp _ = _
      rw [encM_eS]
      rw [← hes]
      rfl
set_option maxRecDepth 100000
def A_ix1 (a0 : TDesign) : List T := [T.v (Value.int IntKind.i64 (a0.2.1.length : Int)), T.fn 29 [] [T.ref [T.ref (yDesign.enc a0)]]]
noncomputable def E_ix1 : Env := Env.of []
def H_ix1 : FuncId → Hint := fun f => match f == 28 with | true => ⟨fun r => match r == 3 with | true => .inv [.map 0 .str false (.int .i64), .val 12 false (.int .i64)] | false => .none, fun _ _ => none, fun _ => none⟩ | false => noHint
theorem Eok_ix1 : EnvOk Tryz.prog E_ix1 := EnvOk.nil _
def F_ix1 (a0 : TDesign) (R : T → Prop) : Prop :=
 decMK Sy.str false (Sy.int IntKind.i64) [] fun (y0 : List (ByteArray × Int)) =>
 loopK (List (ByteArray × Int) × Int × PUnit)
 (fun (X1 : List (ByteArray × Int) × Int × PUnit → Prop) (s2 : List (ByteArray × Int) × Int × PUnit) =>
 iteP (decide (s2.snd.fst < (↑a0.snd.fst.length : Int)))
 (rowsK yNode (List.map yNode.enc a0.snd.fst) s2.snd.fst fun (y3 : TNode) =>
 findK TypeDesc.string (Value.string y3.fst)
 (List.map (encE Sy.str false (Sy.int IntKind.i64)) s2.fst) false
 (Sy.int IntKind.i64)
 (rowsK yNode (List.map yNode.enc a0.snd.fst) s2.snd.fst fun (y7 : TNode) =>
 optK (Option (Nat × D))
 (findD TypeDesc.string (Value.string y7.fst)
 (List.map (encE Sy.str false (Sy.int IntKind.i64)) s2.fst) 0)
 fun (y8 : Option (Nat × D)) =>
 decMK Sy.str false (Sy.int IntKind.i64)
 (setEnt (List.map (encE Sy.str false (Sy.int IntKind.i64)) s2.fst) y8
 (Value.string y7.fst) (D.p (T.v (Value.int IntKind.i64 s2.snd.fst))))
 fun (y9 : List (ByteArray × Int)) => X1 (y9, IntKind.i64.wrap (s2.snd.fst + 1), ()))
 fun (i4 : Nat) (y5 : Int) =>
 decMK Sy.str false (Sy.int IntKind.i64)
 (List.map (encE Sy.str false (Sy.int IntKind.i64)) s2.fst)
 fun (y6 : List (ByteArray × Int)) => X1 (y6, IntKind.i64.wrap (s2.snd.fst + 1), ()))
 (reqK
 ((List.map (encE Sy.str false (Sy.int IntKind.i64)) s2.fst).all
 fun (e : Value × D) => isPD e.snd)
 (R
 (T.mp
 (List.map (fun (e : Value × D) => (e.fst, unPD e.snd))
 (List.map (encE Sy.str false (Sy.int IntKind.i64)) s2.fst))))))
 (y0, 0, ())
theorem F_ix1_eq (a0 : TDesign) (R : T → Prop) : sxTopN stdC2 Tryz.prog E_ix1 H_ix1 8 28 (A_ix1 a0) R = F_ix1 a0 R := by kernel_rfl
abbrev r_ix1 : Sh := [(false, Sy.any)]
theorem r_ix1_call (y : Sh.den r_ix1) (K : Sh.den r_ix1 → Prop) : callK r_ix1 (some (Sh.enc r_ix1 y)) K = K y := callK_enc rfl y K

def sp_ix1 (d : TDesign) : Option (List (ByteArray × Int)) := onlyL d.2.1 (ixs (ids d.2.1))
theorem A_ix1_inj (d d' : TDesign) (h : A_ix1 d = A_ix1 d') : d = d' := by
  unfold A_ix1 at h
  simp only [List.cons.injEq, T.fn.injEq, T.ref.injEq, and_true, true_and] at h
  exact Sy.enc_inj yDesign _ _ h.2
noncomputable def g_ix1 : List T → Option (List (ByteArray × Int)) := gA (fun (x : TDesign) => A_ix1 x) sp_ix1
theorem g_ix1_at (a0 : TDesign) : g_ix1 (A_ix1 a0) = sp_ix1 a0 := gA_at (A := (fun (x : TDesign) => A_ix1 x)) A_ix1_inj a0
theorem of_ix1 (h : ∀ (a0 : TDesign) (r : List (ByteArray × Int)), sp_ix1 a0 = some r → (∀ t ∈ A_ix1 a0, Bd t) → F_ix1 a0 (fun y => y = .mp (encM r))) : NewFn Tryz.prog 28 (gMap g_ix1) :=
  fmapFn_A (E := E_ix1) (Hs := H_ix1) Eok_ix1 mixed' plain' (noHeap_of rfl) 8 ⟨_, _, Tryz.func28, rfl⟩ fun x r h1 h2 => by
    rw [F_ix1_eq]
    exact h x r h1 h2

theorem fn_ix1 : NewFn Tryz.prog 28 (gMap g_ix1) := of_ix1 fun d r h hb => by
  obtain ⟨hl, rfl⟩ := onlyL_of h
  unfold F_ix1
  exact ix_loop (r := yNode.tl) (l := d.2.1) hl
set_option maxRecDepth 100000
def A_ix2 (a0 : TDesign) : List T := [T.v (Value.int IntKind.i64 (a0.2.2.1.length : Int)), T.fn 30 [] [T.ref [T.ref (yDesign.enc a0)]]]
noncomputable def E_ix2 : Env := Env.of []
def H_ix2 : FuncId → Hint := fun f => match f == 28 with | true => ⟨fun r => match r == 3 with | true => .inv [.map 0 .str false (.int .i64), .val 12 false (.int .i64)] | false => .none, fun _ _ => none, fun _ => none⟩ | false => noHint
theorem Eok_ix2 : EnvOk Tryz.prog E_ix2 := EnvOk.nil _
def F_ix2 (a0 : TDesign) (R : T → Prop) : Prop :=
 decMK Sy.str false (Sy.int IntKind.i64) [] fun (y0 : List (ByteArray × Int)) =>
 loopK (List (ByteArray × Int) × Int × PUnit)
 (fun (X1 : List (ByteArray × Int) × Int × PUnit → Prop) (s2 : List (ByteArray × Int) × Int × PUnit) =>
 iteP (decide (s2.snd.fst < (↑a0.snd.snd.fst.length : Int)))
 (rowsK yPart (List.map yPart.enc a0.snd.snd.fst) s2.snd.fst fun (y3 : TPart) =>
 findK TypeDesc.string (Value.string y3.fst)
 (List.map (encE Sy.str false (Sy.int IntKind.i64)) s2.fst) false
 (Sy.int IntKind.i64)
 (rowsK yPart (List.map yPart.enc a0.snd.snd.fst) s2.snd.fst fun (y7 : TPart) =>
 optK (Option (Nat × D))
 (findD TypeDesc.string (Value.string y7.fst)
 (List.map (encE Sy.str false (Sy.int IntKind.i64)) s2.fst) 0)
 fun (y8 : Option (Nat × D)) =>
 decMK Sy.str false (Sy.int IntKind.i64)
 (setEnt (List.map (encE Sy.str false (Sy.int IntKind.i64)) s2.fst) y8
 (Value.string y7.fst) (D.p (T.v (Value.int IntKind.i64 s2.snd.fst))))
 fun (y9 : List (ByteArray × Int)) => X1 (y9, IntKind.i64.wrap (s2.snd.fst + 1), ()))
 fun (i4 : Nat) (y5 : Int) =>
 decMK Sy.str false (Sy.int IntKind.i64)
 (List.map (encE Sy.str false (Sy.int IntKind.i64)) s2.fst)
 fun (y6 : List (ByteArray × Int)) => X1 (y6, IntKind.i64.wrap (s2.snd.fst + 1), ()))
 (reqK
 ((List.map (encE Sy.str false (Sy.int IntKind.i64)) s2.fst).all
 fun (e : Value × D) => isPD e.snd)
 (R
 (T.mp
 (List.map (fun (e : Value × D) => (e.fst, unPD e.snd))
 (List.map (encE Sy.str false (Sy.int IntKind.i64)) s2.fst))))))
 (y0, 0, ())
theorem F_ix2_eq (a0 : TDesign) (R : T → Prop) : sxTopN stdC2 Tryz.prog E_ix2 H_ix2 8 28 (A_ix2 a0) R = F_ix2 a0 R := by kernel_rfl
abbrev r_ix2 : Sh := [(false, Sy.any)]
theorem r_ix2_call (y : Sh.den r_ix2) (K : Sh.den r_ix2 → Prop) : callK r_ix2 (some (Sh.enc r_ix2 y)) K = K y := callK_enc rfl y K

def sp_ix2 (d : TDesign) : Option (List (ByteArray × Int)) := onlyL d.2.2.1 (ixs (ids d.2.2.1))
theorem A_ix2_inj (d d' : TDesign) (h : A_ix2 d = A_ix2 d') : d = d' := by
  unfold A_ix2 at h
  simp only [List.cons.injEq, T.fn.injEq, T.ref.injEq, and_true, true_and] at h
  exact Sy.enc_inj yDesign _ _ h.2
noncomputable def g_ix2 : List T → Option (List (ByteArray × Int)) := gA (fun (x : TDesign) => A_ix2 x) sp_ix2
theorem g_ix2_at (a0 : TDesign) : g_ix2 (A_ix2 a0) = sp_ix2 a0 := gA_at (A := (fun (x : TDesign) => A_ix2 x)) A_ix2_inj a0
theorem of_ix2 (h : ∀ (a0 : TDesign) (r : List (ByteArray × Int)), sp_ix2 a0 = some r → (∀ t ∈ A_ix2 a0, Bd t) → F_ix2 a0 (fun y => y = .mp (encM r))) : NewFn Tryz.prog 28 (gMap g_ix2) :=
  fmapFn_A (E := E_ix2) (Hs := H_ix2) Eok_ix2 mixed' plain' (noHeap_of rfl) 8 ⟨_, _, Tryz.func28, rfl⟩ fun x r h1 h2 => by
    rw [F_ix2_eq]
    exact h x r h1 h2

theorem fn_ix2 : NewFn Tryz.prog 28 (gMap g_ix2) := of_ix2 fun d r h hb => by
  obtain ⟨hl, rfl⟩ := onlyL_of h
  unfold F_ix2
  exact ix_loop (r := yPart.tl) (l := d.2.2.1) hl
set_option maxRecDepth 100000
def A_ix3 (a0 : TDesign) : List T := [T.v (Value.int IntKind.i64 (a0.2.2.2.1.length : Int)), T.fn 31 [] [T.ref [T.ref (yDesign.enc a0)]]]
noncomputable def E_ix3 : Env := Env.of []
def H_ix3 : FuncId → Hint := fun f => match f == 28 with | true => ⟨fun r => match r == 3 with | true => .inv [.map 0 .str false (.int .i64), .val 12 false (.int .i64)] | false => .none, fun _ _ => none, fun _ => none⟩ | false => noHint
theorem Eok_ix3 : EnvOk Tryz.prog E_ix3 := EnvOk.nil _
def F_ix3 (a0 : TDesign) (R : T → Prop) : Prop :=
 decMK Sy.str false (Sy.int IntKind.i64) [] fun (y0 : List (ByteArray × Int)) =>
 loopK (List (ByteArray × Int) × Int × PUnit)
 (fun (X1 : List (ByteArray × Int) × Int × PUnit → Prop) (s2 : List (ByteArray × Int) × Int × PUnit) =>
 iteP (decide (s2.snd.fst < (↑a0.snd.snd.snd.fst.length : Int)))
 (rowsK ySeam (List.map ySeam.enc a0.snd.snd.snd.fst) s2.snd.fst fun (y3 : TSeam) =>
 findK TypeDesc.string (Value.string y3.fst)
 (List.map (encE Sy.str false (Sy.int IntKind.i64)) s2.fst) false
 (Sy.int IntKind.i64)
 (rowsK ySeam (List.map ySeam.enc a0.snd.snd.snd.fst) s2.snd.fst fun (y7 : TSeam) =>
 optK (Option (Nat × D))
 (findD TypeDesc.string (Value.string y7.fst)
 (List.map (encE Sy.str false (Sy.int IntKind.i64)) s2.fst) 0)
 fun (y8 : Option (Nat × D)) =>
 decMK Sy.str false (Sy.int IntKind.i64)
 (setEnt (List.map (encE Sy.str false (Sy.int IntKind.i64)) s2.fst) y8
 (Value.string y7.fst) (D.p (T.v (Value.int IntKind.i64 s2.snd.fst))))
 fun (y9 : List (ByteArray × Int)) => X1 (y9, IntKind.i64.wrap (s2.snd.fst + 1), ()))
 fun (i4 : Nat) (y5 : Int) =>
 decMK Sy.str false (Sy.int IntKind.i64)
 (List.map (encE Sy.str false (Sy.int IntKind.i64)) s2.fst)
 fun (y6 : List (ByteArray × Int)) => X1 (y6, IntKind.i64.wrap (s2.snd.fst + 1), ()))
 (reqK
 ((List.map (encE Sy.str false (Sy.int IntKind.i64)) s2.fst).all
 fun (e : Value × D) => isPD e.snd)
 (R
 (T.mp
 (List.map (fun (e : Value × D) => (e.fst, unPD e.snd))
 (List.map (encE Sy.str false (Sy.int IntKind.i64)) s2.fst))))))
 (y0, 0, ())
theorem F_ix3_eq (a0 : TDesign) (R : T → Prop) : sxTopN stdC2 Tryz.prog E_ix3 H_ix3 8 28 (A_ix3 a0) R = F_ix3 a0 R := by kernel_rfl
abbrev r_ix3 : Sh := [(false, Sy.any)]
theorem r_ix3_call (y : Sh.den r_ix3) (K : Sh.den r_ix3 → Prop) : callK r_ix3 (some (Sh.enc r_ix3 y)) K = K y := callK_enc rfl y K

def sp_ix3 (d : TDesign) : Option (List (ByteArray × Int)) := onlyL d.2.2.2.1 (ixs (ids d.2.2.2.1))
theorem A_ix3_inj (d d' : TDesign) (h : A_ix3 d = A_ix3 d') : d = d' := by
  unfold A_ix3 at h
  simp only [List.cons.injEq, T.fn.injEq, T.ref.injEq, and_true, true_and] at h
  exact Sy.enc_inj yDesign _ _ h.2
noncomputable def g_ix3 : List T → Option (List (ByteArray × Int)) := gA (fun (x : TDesign) => A_ix3 x) sp_ix3
theorem g_ix3_at (a0 : TDesign) : g_ix3 (A_ix3 a0) = sp_ix3 a0 := gA_at (A := (fun (x : TDesign) => A_ix3 x)) A_ix3_inj a0
theorem of_ix3 (h : ∀ (a0 : TDesign) (r : List (ByteArray × Int)), sp_ix3 a0 = some r → (∀ t ∈ A_ix3 a0, Bd t) → F_ix3 a0 (fun y => y = .mp (encM r))) : NewFn Tryz.prog 28 (gMap g_ix3) :=
  fmapFn_A (E := E_ix3) (Hs := H_ix3) Eok_ix3 mixed' plain' (noHeap_of rfl) 8 ⟨_, _, Tryz.func28, rfl⟩ fun x r h1 h2 => by
    rw [F_ix3_eq]
    exact h x r h1 h2

theorem fn_ix3 : NewFn Tryz.prog 28 (gMap g_ix3) := of_ix3 fun d r h hb => by
  obtain ⟨hl, rfl⟩ := onlyL_of h
  unfold F_ix3
  exact ix_loop (r := ySeam.tl) (l := d.2.2.2.1) hl
set_option maxRecDepth 100000
def A_ix4 (a0 : TDesign) : List T := [T.v (Value.int IntKind.i64 (a0.2.2.2.2.1.length : Int)), T.fn 32 [] [T.ref [T.ref (yDesign.enc a0)]]]
noncomputable def E_ix4 : Env := Env.of []
def H_ix4 : FuncId → Hint := fun f => match f == 28 with | true => ⟨fun r => match r == 3 with | true => .inv [.map 0 .str false (.int .i64), .val 12 false (.int .i64)] | false => .none, fun _ _ => none, fun _ => none⟩ | false => noHint
theorem Eok_ix4 : EnvOk Tryz.prog E_ix4 := EnvOk.nil _
def F_ix4 (a0 : TDesign) (R : T → Prop) : Prop :=
 decMK Sy.str false (Sy.int IntKind.i64) [] fun (y0 : List (ByteArray × Int)) =>
 loopK (List (ByteArray × Int) × Int × PUnit)
 (fun (X1 : List (ByteArray × Int) × Int × PUnit → Prop) (s2 : List (ByteArray × Int) × Int × PUnit) =>
 iteP (decide (s2.snd.fst < (↑a0.snd.snd.snd.snd.fst.length : Int)))
 (rowsK yPackage (List.map yPackage.enc a0.snd.snd.snd.snd.fst) s2.snd.fst
 fun (y3 : TPackage) =>
 findK TypeDesc.string (Value.string y3.fst)
 (List.map (encE Sy.str false (Sy.int IntKind.i64)) s2.fst) false
 (Sy.int IntKind.i64)
 (rowsK yPackage (List.map yPackage.enc a0.snd.snd.snd.snd.fst) s2.snd.fst
 fun (y7 : TPackage) =>
 optK (Option (Nat × D))
 (findD TypeDesc.string (Value.string y7.fst)
 (List.map (encE Sy.str false (Sy.int IntKind.i64)) s2.fst) 0)
 fun (y8 : Option (Nat × D)) =>
 decMK Sy.str false (Sy.int IntKind.i64)
 (setEnt (List.map (encE Sy.str false (Sy.int IntKind.i64)) s2.fst) y8
 (Value.string y7.fst) (D.p (T.v (Value.int IntKind.i64 s2.snd.fst))))
 fun (y9 : List (ByteArray × Int)) => X1 (y9, IntKind.i64.wrap (s2.snd.fst + 1), ()))
 fun (i4 : Nat) (y5 : Int) =>
 decMK Sy.str false (Sy.int IntKind.i64)
 (List.map (encE Sy.str false (Sy.int IntKind.i64)) s2.fst)
 fun (y6 : List (ByteArray × Int)) => X1 (y6, IntKind.i64.wrap (s2.snd.fst + 1), ()))
 (reqK
 ((List.map (encE Sy.str false (Sy.int IntKind.i64)) s2.fst).all
 fun (e : Value × D) => isPD e.snd)
 (R
 (T.mp
 (List.map (fun (e : Value × D) => (e.fst, unPD e.snd))
 (List.map (encE Sy.str false (Sy.int IntKind.i64)) s2.fst))))))
 (y0, 0, ())
theorem F_ix4_eq (a0 : TDesign) (R : T → Prop) : sxTopN stdC2 Tryz.prog E_ix4 H_ix4 8 28 (A_ix4 a0) R = F_ix4 a0 R := by kernel_rfl
abbrev r_ix4 : Sh := [(false, Sy.any)]
theorem r_ix4_call (y : Sh.den r_ix4) (K : Sh.den r_ix4 → Prop) : callK r_ix4 (some (Sh.enc r_ix4 y)) K = K y := callK_enc rfl y K

def sp_ix4 (d : TDesign) : Option (List (ByteArray × Int)) := onlyL d.2.2.2.2.1 (ixs (ids d.2.2.2.2.1))
theorem A_ix4_inj (d d' : TDesign) (h : A_ix4 d = A_ix4 d') : d = d' := by
  unfold A_ix4 at h
  simp only [List.cons.injEq, T.fn.injEq, T.ref.injEq, and_true, true_and] at h
  exact Sy.enc_inj yDesign _ _ h.2
noncomputable def g_ix4 : List T → Option (List (ByteArray × Int)) := gA (fun (x : TDesign) => A_ix4 x) sp_ix4
theorem g_ix4_at (a0 : TDesign) : g_ix4 (A_ix4 a0) = sp_ix4 a0 := gA_at (A := (fun (x : TDesign) => A_ix4 x)) A_ix4_inj a0
theorem of_ix4 (h : ∀ (a0 : TDesign) (r : List (ByteArray × Int)), sp_ix4 a0 = some r → (∀ t ∈ A_ix4 a0, Bd t) → F_ix4 a0 (fun y => y = .mp (encM r))) : NewFn Tryz.prog 28 (gMap g_ix4) :=
  fmapFn_A (E := E_ix4) (Hs := H_ix4) Eok_ix4 mixed' plain' (noHeap_of rfl) 8 ⟨_, _, Tryz.func28, rfl⟩ fun x r h1 h2 => by
    rw [F_ix4_eq]
    exact h x r h1 h2

theorem fn_ix4 : NewFn Tryz.prog 28 (gMap g_ix4) := of_ix4 fun d r h hb => by
  obtain ⟨hl, rfl⟩ := onlyL_of h
  unfold F_ix4
  exact ix_loop (r := yPackage.tl) (l := d.2.2.2.2.1) hl
end Go.Pv
set_option linter.unusedSimpArgs false
set_option linter.unusedVariables false
set_option maxRecDepth 100000
namespace Go.Pv
open Go Go.Proofs
/-- The first of two functions that is defined. -/
def orG {α : Type} (g1 g2 : List T → Option α) (a : List T) : Option α := match g1 a with
  | some r => some r
  | none => g2 a
theorem orG_l {α : Type} {g1 g2 : List T → Option α} {a : List T} {r : α} (h : g1 a = some r) : orG g1 g2 a = some r := by unfold orG; rw [h]
theorem orG_r {α : Type} {g1 g2 : List T → Option α} {a : List T} (h : g1 a = none) : orG g1 g2 a = g2 a := by unfold orG; rw [h]
theorem orG_cases {α : Type} {g1 g2 : List T → Option α} {a : List T} {r : α} (h : orG g1 g2 a = some r) : g1 a = some r ∨ g2 a = some r := by
  unfold orG at h
  split at h
  · rename_i r' h1; cases h; exact .inl h1
  · exact .inr h
theorem PureFn.or {P : Program} {f : FuncId} {g1 g2 : List T → Option T} (h1 : PureFn P f g1) (h2 : PureFn P f g2) : PureFn P f (orG g1 g2) := ⟨h1.entry, fun w own args vs r hG ho ha hr => by
  rcases orG_cases hr with h | h
  · exact h1.calls w own args vs r hG ho ha h
  · exact h2.calls w own args vs r hG ho ha h⟩
theorem NewFn.orM {P : Program} {f : FuncId} {g1 g2 : List T → Option (List (ByteArray × Int))} (h1 : NewFn P f (gMap g1)) (h2 : NewFn P f (gMap g2)) : NewFn P f (gMap (orG g1 g2)) := ⟨h1.entry, fun w own args vs r hG ho ha hr => by
  simp only [gMap, Option.map_eq_some_iff] at hr
  obtain ⟨es, h, rfl⟩ := hr
  rcases orG_cases h with h | h
  · exact h1.calls w own args vs _ hG ho ha (by simp [gMap, h])
  · exact h2.calls w own args vs _ hG ho ha (by simp [gMap, h])⟩
noncomputable def g_ix : List T → Option (List (ByteArray × Int)) := orG g_ix1 (orG g_ix2 (orG g_ix3 g_ix4))
theorem fn_ix : NewFn Tryz.prog 28 (gMap g_ix) := .orM fn_ix1 (.orM fn_ix2 (.orM fn_ix3 fn_ix4))
theorem gA_none {α X : Type} {A : X → List T} {sp : X → Option α} {args : List T} (h : ∀ x, args ≠ A x) : gA A sp args = none := by
  unfold gA; rw [dif_neg]; rintro ⟨x, hx⟩; exact h x hx
/-- Strings ascend. -/
def asc : List ByteArray → Bool
  | a :: b :: l => !(sless b a || decide (b = a)) && asc (b :: l)
  | _ => true
theorem asc_step {l : List ByteArray} {k : Nat} (h : k + 1 < l.length) : asc (l.drop k) = (!(sless l[k + 1] l[k] || decide (l[k + 1] = l[k])) && asc (l.drop (k + 1))) := by
  rw [List.drop_eq_getElem_cons (show k < l.length by omega), List.drop_eq_getElem_cons h, asc]
theorem asc_end {l : List ByteArray} {k : Nat} (h : l.length ≤ k + 1) : asc (l.drop k) = true := by
  rcases Nat.lt_or_ge k l.length with h1 | h1
  · rw [List.drop_eq_getElem_cons h1, List.drop_eq_nil_of_le h]; rfl
  · rw [List.drop_eq_nil_of_le h1]; rfl
theorem ri_loop {r : Sy} {p : r.den → ByteArray} {l : List r.den} (hl : l.length ≤ 140737488355328) {R : T → Prop} (hR : R (T.v (Value.bool (asc (l.map p))))) :
  loopK (Int × PUnit)
  (fun (X0 : Int × PUnit → Prop) (s1 : Int × PUnit) =>
    iteP (decide (s1.fst < (↑l.length : Int)))
      (rowsK r (List.map r.enc l) s1.fst fun (y2 : r.den) =>
        rowsK r (List.map r.enc l) (IntKind.i64.wrap (s1.fst - 1))
          fun (y3 : r.den) =>
          iteP (sless (p y2) (p y3) || decide (p y2 = p y3)) (R (T.v (Value.bool false)))
            (X0 (IntKind.i64.wrap (s1.fst + 1), ())))
      (R (T.v (Value.bool true))))
  (1, ()) := by
  refine loopK_ix l.length (fun k s => s = (((k + 1 : Nat) : Int), ()) ∧ asc (l.map p) = asc ((l.map p).drop k)) ⟨rfl, by rw [List.drop_zero]⟩ ?_
  rintro X k s hk ⟨rfl, he⟩ hX
  dsimp only
  have hw : IntKind.i64.wrap (((k + 1 : Nat) : Int) + 1) = ((k + 1 + 1 : Nat) : Int) := wrap_id _ (by omega) (by omega)
  have hw1 : IntKind.i64.wrap (((k + 1 : Nat) : Int) - 1) = ((k : Nat) : Int) := by rw [wrap_id _ (by omega) (by omega)]; omega
  by_cases hlt : k + 1 < l.length
  · refine iteP_yes (by omega) ?_
    rw [rowsK_at hlt, hw1, rowsK_at (show k < l.length by omega)]
    rw [asc_step (by rw [List.length_map]; exact hlt)] at he
    rw [List.getElem_map, List.getElem_map] at he
    cases hc : (sless (p l[k + 1]) (p l[k]) || decide (p l[k + 1] = p l[k])) with
    | true =>
      rw [iteP_t]
      rw [hc, Bool.not_true, Bool.false_and] at he
      rwa [he] at hR
    | false =>
      rw [iteP_f]
      rw [hc, Bool.not_false, Bool.true_and] at he
      exact hX _ (by omega) ⟨by rw [hw], he⟩
  · refine iteP_no (by omega) ?_
    rw [asc_end (by rw [List.length_map]; omega)] at he
    rwa [he] at hR
set_option maxRecDepth 100000
def A_ri5 (a0 : List ByteArray) : List T := [T.v (Value.int IntKind.i64 (a0.length : Int)), T.fn 71 [] [T.ref [T.sl false (List.map Sy.str.enc a0)]]]
noncomputable def E_ri5 : Env := Env.of []
def H_ri5 : FuncId → Hint := fun f => match f == 33 with | true => ⟨fun r => match r == 2 with | true => .inv [.val 5 false (.int .i64)] | false => .none, fun _ _ => none, fun _ => none⟩ | false => noHint
theorem Eok_ri5 : EnvOk Tryz.prog E_ri5 := EnvOk.nil _
def F_ri5 (a0 : List ByteArray) (R : T → Prop) : Prop :=
 loopK (Int × PUnit)
 (fun (X0 : Int × PUnit → Prop) (s1 : Int × PUnit) =>
 iteP (decide (s1.fst < (↑a0.length : Int)))
 (rowsK Sy.str (List.map Sy.str.enc a0) s1.fst fun (y2 : ByteArray) =>
 rowsK Sy.str (List.map Sy.str.enc a0) (IntKind.i64.wrap (s1.fst - 1))
 fun (y3 : ByteArray) =>
 iteP (sless y2 y3 || decide (y2 = y3)) (R (T.v (Value.bool false)))
 (X0 (IntKind.i64.wrap (s1.fst + 1), ())))
 (R (T.v (Value.bool true))))
 (1, ())
theorem F_ri5_eq (a0 : List ByteArray) (R : T → Prop) : sxTop stdC2 Tryz.prog E_ri5 H_ri5 8 33 (A_ri5 a0) R = F_ri5 a0 R := by kernel_rfl
abbrev r_ri5 : Sh := [(false, Sy.bool)]
theorem r_ri5_call (y : Sh.den r_ri5) (K : Sh.den r_ri5 → Prop) : callK r_ri5 (some (Sh.enc r_ri5 y)) K = K y := callK_enc rfl y K

def sp_ri5 (l : List ByteArray) : Option T := onlyL l (T.v (Value.bool (asc l)))
theorem A_ri5_inj (d d' : List ByteArray) (h : A_ri5 d = A_ri5 d') : d = d' := by
  unfold A_ri5 at h
  simp only [List.cons.injEq, T.fn.injEq, T.ref.injEq, and_true, true_and, T.sl.injEq] at h
  exact map_inj (Sy.enc_inj .str) h.2
noncomputable def g_ri5 : List T → Option (T) := gA (fun (x : List ByteArray) => A_ri5 x) sp_ri5
theorem g_ri5_at (a0 : List ByteArray) : g_ri5 (A_ri5 a0) = sp_ri5 a0 := gA_at (A := (fun (x : List ByteArray) => A_ri5 x)) A_ri5_inj a0
theorem of_ri5 (h : ∀ (a0 : List ByteArray) (r : T), sp_ri5 a0 = some r → (∀ t ∈ A_ri5 a0, Bd t) → F_ri5 a0 (fun y => y = r)) : PureFn Tryz.prog 33 g_ri5 :=
  pureFn_A (E := E_ri5) (Hs := H_ri5) Eok_ri5 mixed' plain' (noHeap_of rfl) 8 ⟨_, _, Tryz.func33, rfl⟩ fun x r h1 h2 => by
    rw [F_ri5_eq]
    exact h x r h1 h2

theorem fn_ri5 : PureFn Tryz.prog 33 g_ri5 := of_ri5 fun l r h hb => by
  obtain ⟨hl, rfl⟩ := onlyL_of h
  unfold F_ri5
  exact ri_loop (r := .str) (p := fun y => y) (R := fun y => y = T.v (Value.bool (asc l))) hl (by simp)
set_option maxRecDepth 100000
def A_ri1 (a0 : TDesign) : List T := [T.v (Value.int IntKind.i64 (a0.2.1.length : Int)), T.fn 34 [] [T.ref [T.ref (yDesign.enc a0)]]]
noncomputable def E_ri1 : Env := Env.of []
def H_ri1 : FuncId → Hint := fun f => match f == 33 with | true => ⟨fun r => match r == 2 with | true => .inv [.val 5 false (.int .i64)] | false => .none, fun _ _ => none, fun _ => none⟩ | false => noHint
theorem Eok_ri1 : EnvOk Tryz.prog E_ri1 := EnvOk.nil _
def F_ri1 (a0 : TDesign) (R : T → Prop) : Prop :=
 loopK (Int × PUnit)
 (fun (X0 : Int × PUnit → Prop) (s1 : Int × PUnit) =>
 iteP (decide (s1.fst < (↑a0.snd.fst.length : Int)))
 (rowsK yNode (List.map yNode.enc a0.snd.fst) s1.fst fun (y2 : TNode) =>
 rowsK yNode (List.map yNode.enc a0.snd.fst) (IntKind.i64.wrap (s1.fst - 1))
 fun (y3 : TNode) =>
 iteP (sless y2.fst y3.fst || decide (y2.fst = y3.fst)) (R (T.v (Value.bool false)))
 (X0 (IntKind.i64.wrap (s1.fst + 1), ())))
 (R (T.v (Value.bool true))))
 (1, ())
theorem F_ri1_eq (a0 : TDesign) (R : T → Prop) : sxTop stdC2 Tryz.prog E_ri1 H_ri1 8 33 (A_ri1 a0) R = F_ri1 a0 R := by kernel_rfl
abbrev r_ri1 : Sh := [(false, Sy.bool)]
theorem r_ri1_call (y : Sh.den r_ri1) (K : Sh.den r_ri1 → Prop) : callK r_ri1 (some (Sh.enc r_ri1 y)) K = K y := callK_enc rfl y K

def sp_ri1 (d : TDesign) : Option T := onlyL d.2.1 (T.v (Value.bool (asc (ids d.2.1))))
theorem A_ri1_inj (d d' : TDesign) (h : A_ri1 d = A_ri1 d') : d = d' := by
  unfold A_ri1 at h
  simp only [List.cons.injEq, T.fn.injEq, T.ref.injEq, and_true, true_and] at h
  exact Sy.enc_inj yDesign _ _ h.2
noncomputable def g_ri1 : List T → Option (T) := gA (fun (x : TDesign) => A_ri1 x) sp_ri1
theorem g_ri1_at (a0 : TDesign) : g_ri1 (A_ri1 a0) = sp_ri1 a0 := gA_at (A := (fun (x : TDesign) => A_ri1 x)) A_ri1_inj a0
theorem of_ri1 (h : ∀ (a0 : TDesign) (r : T), sp_ri1 a0 = some r → (∀ t ∈ A_ri1 a0, Bd t) → F_ri1 a0 (fun y => y = r)) : PureFn Tryz.prog 33 g_ri1 :=
  pureFn_A (E := E_ri1) (Hs := H_ri1) Eok_ri1 mixed' plain' (noHeap_of rfl) 8 ⟨_, _, Tryz.func33, rfl⟩ fun x r h1 h2 => by
    rw [F_ri1_eq]
    exact h x r h1 h2

theorem fn_ri1 : PureFn Tryz.prog 33 g_ri1 := of_ri1 fun d r h hb => by
  obtain ⟨hl, rfl⟩ := onlyL_of h
  unfold F_ri1
  exact ri_loop (r := yNode) (p := fun y => y.1) (R := fun y => y = T.v (Value.bool (asc (ids d.2.1)))) hl rfl
set_option maxRecDepth 100000
def A_ri2 (a0 : TDesign) : List T := [T.v (Value.int IntKind.i64 (a0.2.2.1.length : Int)), T.fn 35 [] [T.ref [T.ref (yDesign.enc a0)]]]
noncomputable def E_ri2 : Env := Env.of []
def H_ri2 : FuncId → Hint := fun f => match f == 33 with | true => ⟨fun r => match r == 2 with | true => .inv [.val 5 false (.int .i64)] | false => .none, fun _ _ => none, fun _ => none⟩ | false => noHint
theorem Eok_ri2 : EnvOk Tryz.prog E_ri2 := EnvOk.nil _
def F_ri2 (a0 : TDesign) (R : T → Prop) : Prop :=
 loopK (Int × PUnit)
 (fun (X0 : Int × PUnit → Prop) (s1 : Int × PUnit) =>
 iteP (decide (s1.fst < (↑a0.snd.snd.fst.length : Int)))
 (rowsK yPart (List.map yPart.enc a0.snd.snd.fst) s1.fst fun (y2 : TPart) =>
 rowsK yPart (List.map yPart.enc a0.snd.snd.fst) (IntKind.i64.wrap (s1.fst - 1))
 fun (y3 : TPart) =>
 iteP (sless y2.fst y3.fst || decide (y2.fst = y3.fst)) (R (T.v (Value.bool false)))
 (X0 (IntKind.i64.wrap (s1.fst + 1), ())))
 (R (T.v (Value.bool true))))
 (1, ())
theorem F_ri2_eq (a0 : TDesign) (R : T → Prop) : sxTop stdC2 Tryz.prog E_ri2 H_ri2 8 33 (A_ri2 a0) R = F_ri2 a0 R := by kernel_rfl
abbrev r_ri2 : Sh := [(false, Sy.bool)]
theorem r_ri2_call (y : Sh.den r_ri2) (K : Sh.den r_ri2 → Prop) : callK r_ri2 (some (Sh.enc r_ri2 y)) K = K y := callK_enc rfl y K

def sp_ri2 (d : TDesign) : Option T := onlyL d.2.2.1 (T.v (Value.bool (asc (ids d.2.2.1))))
theorem A_ri2_inj (d d' : TDesign) (h : A_ri2 d = A_ri2 d') : d = d' := by
  unfold A_ri2 at h
  simp only [List.cons.injEq, T.fn.injEq, T.ref.injEq, and_true, true_and] at h
  exact Sy.enc_inj yDesign _ _ h.2
noncomputable def g_ri2 : List T → Option (T) := gA (fun (x : TDesign) => A_ri2 x) sp_ri2
theorem g_ri2_at (a0 : TDesign) : g_ri2 (A_ri2 a0) = sp_ri2 a0 := gA_at (A := (fun (x : TDesign) => A_ri2 x)) A_ri2_inj a0
theorem of_ri2 (h : ∀ (a0 : TDesign) (r : T), sp_ri2 a0 = some r → (∀ t ∈ A_ri2 a0, Bd t) → F_ri2 a0 (fun y => y = r)) : PureFn Tryz.prog 33 g_ri2 :=
  pureFn_A (E := E_ri2) (Hs := H_ri2) Eok_ri2 mixed' plain' (noHeap_of rfl) 8 ⟨_, _, Tryz.func33, rfl⟩ fun x r h1 h2 => by
    rw [F_ri2_eq]
    exact h x r h1 h2

theorem fn_ri2 : PureFn Tryz.prog 33 g_ri2 := of_ri2 fun d r h hb => by
  obtain ⟨hl, rfl⟩ := onlyL_of h
  unfold F_ri2
  exact ri_loop (r := yPart) (p := fun y => y.1) (R := fun y => y = T.v (Value.bool (asc (ids d.2.2.1)))) hl rfl
set_option maxRecDepth 100000
def A_ri3 (a0 : TDesign) : List T := [T.v (Value.int IntKind.i64 (a0.2.2.2.1.length : Int)), T.fn 36 [] [T.ref [T.ref (yDesign.enc a0)]]]
noncomputable def E_ri3 : Env := Env.of []
def H_ri3 : FuncId → Hint := fun f => match f == 33 with | true => ⟨fun r => match r == 2 with | true => .inv [.val 5 false (.int .i64)] | false => .none, fun _ _ => none, fun _ => none⟩ | false => noHint
theorem Eok_ri3 : EnvOk Tryz.prog E_ri3 := EnvOk.nil _
def F_ri3 (a0 : TDesign) (R : T → Prop) : Prop :=
 loopK (Int × PUnit)
 (fun (X0 : Int × PUnit → Prop) (s1 : Int × PUnit) =>
 iteP (decide (s1.fst < (↑a0.snd.snd.snd.fst.length : Int)))
 (rowsK ySeam (List.map ySeam.enc a0.snd.snd.snd.fst) s1.fst fun (y2 : TSeam) =>
 rowsK ySeam (List.map ySeam.enc a0.snd.snd.snd.fst) (IntKind.i64.wrap (s1.fst - 1))
 fun (y3 : TSeam) =>
 iteP (sless y2.fst y3.fst || decide (y2.fst = y3.fst)) (R (T.v (Value.bool false)))
 (X0 (IntKind.i64.wrap (s1.fst + 1), ())))
 (R (T.v (Value.bool true))))
 (1, ())
theorem F_ri3_eq (a0 : TDesign) (R : T → Prop) : sxTop stdC2 Tryz.prog E_ri3 H_ri3 8 33 (A_ri3 a0) R = F_ri3 a0 R := by kernel_rfl
abbrev r_ri3 : Sh := [(false, Sy.bool)]
theorem r_ri3_call (y : Sh.den r_ri3) (K : Sh.den r_ri3 → Prop) : callK r_ri3 (some (Sh.enc r_ri3 y)) K = K y := callK_enc rfl y K

def sp_ri3 (d : TDesign) : Option T := onlyL d.2.2.2.1 (T.v (Value.bool (asc (ids d.2.2.2.1))))
theorem A_ri3_inj (d d' : TDesign) (h : A_ri3 d = A_ri3 d') : d = d' := by
  unfold A_ri3 at h
  simp only [List.cons.injEq, T.fn.injEq, T.ref.injEq, and_true, true_and] at h
  exact Sy.enc_inj yDesign _ _ h.2
noncomputable def g_ri3 : List T → Option (T) := gA (fun (x : TDesign) => A_ri3 x) sp_ri3
theorem g_ri3_at (a0 : TDesign) : g_ri3 (A_ri3 a0) = sp_ri3 a0 := gA_at (A := (fun (x : TDesign) => A_ri3 x)) A_ri3_inj a0
theorem of_ri3 (h : ∀ (a0 : TDesign) (r : T), sp_ri3 a0 = some r → (∀ t ∈ A_ri3 a0, Bd t) → F_ri3 a0 (fun y => y = r)) : PureFn Tryz.prog 33 g_ri3 :=
  pureFn_A (E := E_ri3) (Hs := H_ri3) Eok_ri3 mixed' plain' (noHeap_of rfl) 8 ⟨_, _, Tryz.func33, rfl⟩ fun x r h1 h2 => by
    rw [F_ri3_eq]
    exact h x r h1 h2

theorem fn_ri3 : PureFn Tryz.prog 33 g_ri3 := of_ri3 fun d r h hb => by
  obtain ⟨hl, rfl⟩ := onlyL_of h
  unfold F_ri3
  exact ri_loop (r := ySeam) (p := fun y => y.1) (R := fun y => y = T.v (Value.bool (asc (ids d.2.2.2.1)))) hl rfl
set_option maxRecDepth 100000
def A_ri4 (a0 : TDesign) : List T := [T.v (Value.int IntKind.i64 (a0.2.2.2.2.1.length : Int)), T.fn 37 [] [T.ref [T.ref (yDesign.enc a0)]]]
noncomputable def E_ri4 : Env := Env.of []
def H_ri4 : FuncId → Hint := fun f => match f == 33 with | true => ⟨fun r => match r == 2 with | true => .inv [.val 5 false (.int .i64)] | false => .none, fun _ _ => none, fun _ => none⟩ | false => noHint
theorem Eok_ri4 : EnvOk Tryz.prog E_ri4 := EnvOk.nil _
def F_ri4 (a0 : TDesign) (R : T → Prop) : Prop :=
 loopK (Int × PUnit)
 (fun (X0 : Int × PUnit → Prop) (s1 : Int × PUnit) =>
 iteP (decide (s1.fst < (↑a0.snd.snd.snd.snd.fst.length : Int)))
 (rowsK yPackage (List.map yPackage.enc a0.snd.snd.snd.snd.fst) s1.fst
 fun (y2 : TPackage) =>
 rowsK yPackage (List.map yPackage.enc a0.snd.snd.snd.snd.fst)
 (IntKind.i64.wrap (s1.fst - 1)) fun (y3 : TPackage) =>
 iteP (sless y2.fst y3.fst || decide (y2.fst = y3.fst)) (R (T.v (Value.bool false)))
 (X0 (IntKind.i64.wrap (s1.fst + 1), ())))
 (R (T.v (Value.bool true))))
 (1, ())
theorem F_ri4_eq (a0 : TDesign) (R : T → Prop) : sxTop stdC2 Tryz.prog E_ri4 H_ri4 8 33 (A_ri4 a0) R = F_ri4 a0 R := by kernel_rfl
abbrev r_ri4 : Sh := [(false, Sy.bool)]
theorem r_ri4_call (y : Sh.den r_ri4) (K : Sh.den r_ri4 → Prop) : callK r_ri4 (some (Sh.enc r_ri4 y)) K = K y := callK_enc rfl y K

def sp_ri4 (d : TDesign) : Option T := onlyL d.2.2.2.2.1 (T.v (Value.bool (asc (ids d.2.2.2.2.1))))
theorem A_ri4_inj (d d' : TDesign) (h : A_ri4 d = A_ri4 d') : d = d' := by
  unfold A_ri4 at h
  simp only [List.cons.injEq, T.fn.injEq, T.ref.injEq, and_true, true_and] at h
  exact Sy.enc_inj yDesign _ _ h.2
noncomputable def g_ri4 : List T → Option (T) := gA (fun (x : TDesign) => A_ri4 x) sp_ri4
theorem g_ri4_at (a0 : TDesign) : g_ri4 (A_ri4 a0) = sp_ri4 a0 := gA_at (A := (fun (x : TDesign) => A_ri4 x)) A_ri4_inj a0
theorem of_ri4 (h : ∀ (a0 : TDesign) (r : T), sp_ri4 a0 = some r → (∀ t ∈ A_ri4 a0, Bd t) → F_ri4 a0 (fun y => y = r)) : PureFn Tryz.prog 33 g_ri4 :=
  pureFn_A (E := E_ri4) (Hs := H_ri4) Eok_ri4 mixed' plain' (noHeap_of rfl) 8 ⟨_, _, Tryz.func33, rfl⟩ fun x r h1 h2 => by
    rw [F_ri4_eq]
    exact h x r h1 h2

theorem fn_ri4 : PureFn Tryz.prog 33 g_ri4 := of_ri4 fun d r h hb => by
  obtain ⟨hl, rfl⟩ := onlyL_of h
  unfold F_ri4
  exact ri_loop (r := yPackage) (p := fun y => y.1) (R := fun y => y = T.v (Value.bool (asc (ids d.2.2.2.2.1)))) hl rfl
noncomputable def g_ri : List T → Option T := orG g_ri1 (orG g_ri2 (orG g_ri3 (orG g_ri4 g_ri5)))
theorem fn_ri : PureFn Tryz.prog 33 g_ri := .or fn_ri1 (.or fn_ri2 (.or fn_ri3 (.or fn_ri4 fn_ri5)))
/-! Which of them speaks. -/
theorem g_ix_1 {d : TDesign} (h : d.2.1.length ≤ 140737488355328) : g_ix (A_ix1 d) = some (ixs (ids d.2.1)) := by
  have h1 : g_ix1 (A_ix1 d) = some (ixs (ids d.2.1)) := by rw [g_ix1_at]; exact onlyL_ok _ h
  exact (orG_l h1)
theorem g_ri_1 {d : TDesign} (h : d.2.1.length ≤ 140737488355328) : g_ri (A_ri1 d) = some (T.v (Value.bool (asc (ids d.2.1)))) := by
  have h1 : g_ri1 (A_ri1 d) = some (T.v (Value.bool (asc (ids d.2.1)))) := by rw [g_ri1_at]; exact onlyL_ok _ h
  exact (orG_l h1)
theorem g_ix_2 {d : TDesign} (h : d.2.2.1.length ≤ 140737488355328) : g_ix (A_ix2 d) = some (ixs (ids d.2.2.1)) := by
  have h1 : g_ix2 (A_ix2 d) = some (ixs (ids d.2.2.1)) := by rw [g_ix2_at]; exact onlyL_ok _ h
  exact ((orG_r (gA_none fun x h => by simp [A_ix1, A_ix2] at h)).trans (orG_l h1))
theorem g_ri_2 {d : TDesign} (h : d.2.2.1.length ≤ 140737488355328) : g_ri (A_ri2 d) = some (T.v (Value.bool (asc (ids d.2.2.1)))) := by
  have h1 : g_ri2 (A_ri2 d) = some (T.v (Value.bool (asc (ids d.2.2.1)))) := by rw [g_ri2_at]; exact onlyL_ok _ h
  exact ((orG_r (gA_none fun x h => by simp [A_ri1, A_ri2] at h)).trans (orG_l h1))
theorem g_ix_3 {d : TDesign} (h : d.2.2.2.1.length ≤ 140737488355328) : g_ix (A_ix3 d) = some (ixs (ids d.2.2.2.1)) := by
  have h1 : g_ix3 (A_ix3 d) = some (ixs (ids d.2.2.2.1)) := by rw [g_ix3_at]; exact onlyL_ok _ h
  exact ((orG_r (gA_none fun x h => by simp [A_ix1, A_ix3] at h)).trans ((orG_r (gA_none fun x h => by simp [A_ix2, A_ix3] at h)).trans (orG_l h1)))
theorem g_ri_3 {d : TDesign} (h : d.2.2.2.1.length ≤ 140737488355328) : g_ri (A_ri3 d) = some (T.v (Value.bool (asc (ids d.2.2.2.1)))) := by
  have h1 : g_ri3 (A_ri3 d) = some (T.v (Value.bool (asc (ids d.2.2.2.1)))) := by rw [g_ri3_at]; exact onlyL_ok _ h
  exact ((orG_r (gA_none fun x h => by simp [A_ri1, A_ri3] at h)).trans ((orG_r (gA_none fun x h => by simp [A_ri2, A_ri3] at h)).trans (orG_l h1)))
theorem g_ix_4 {d : TDesign} (h : d.2.2.2.2.1.length ≤ 140737488355328) : g_ix (A_ix4 d) = some (ixs (ids d.2.2.2.2.1)) := by
  have h1 : g_ix4 (A_ix4 d) = some (ixs (ids d.2.2.2.2.1)) := by rw [g_ix4_at]; exact onlyL_ok _ h
  exact ((orG_r (gA_none fun x h => by simp [A_ix1, A_ix4] at h)).trans ((orG_r (gA_none fun x h => by simp [A_ix2, A_ix4] at h)).trans ((orG_r (gA_none fun x h => by simp [A_ix3, A_ix4] at h)).trans h1)))
theorem g_ri_4 {d : TDesign} (h : d.2.2.2.2.1.length ≤ 140737488355328) : g_ri (A_ri4 d) = some (T.v (Value.bool (asc (ids d.2.2.2.2.1)))) := by
  have h1 : g_ri4 (A_ri4 d) = some (T.v (Value.bool (asc (ids d.2.2.2.2.1)))) := by rw [g_ri4_at]; exact onlyL_ok _ h
  exact ((orG_r (gA_none fun x h => by simp [A_ri1, A_ri4] at h)).trans ((orG_r (gA_none fun x h => by simp [A_ri2, A_ri4] at h)).trans ((orG_r (gA_none fun x h => by simp [A_ri3, A_ri4] at h)).trans (orG_l h1))))
theorem g_ri_5 {l : List ByteArray} (h : l.length ≤ 140737488355328) : g_ri (A_ri5 l) = some (T.v (Value.bool (asc l))) := by
  have h1 : g_ri5 (A_ri5 l) = some (T.v (Value.bool (asc l))) := by rw [g_ri5_at]; exact onlyL_ok _ h
  exact ((orG_r (gA_none fun x h => by simp [A_ri1, A_ri5] at h)).trans ((orG_r (gA_none fun x h => by simp [A_ri2, A_ri5] at h)).trans ((orG_r (gA_none fun x h => by simp [A_ri3, A_ri5] at h)).trans ((orG_r (gA_none fun x h => by simp [A_ri4, A_ri5] at h)).trans h1))))
abbrev tRef (d : TDesign) (m1 m2 m3 m4 : List (ByteArray × Int)) : T := T.ref [T.ref (yDesign.enc d), T.mp (encM m1), T.mp (encM m2), T.mp (encM m3), T.mp (encM m4)]
end Go.Pv
set_option linter.unusedSimpArgs false
set_option linter.unusedVariables false
set_option maxRecDepth 100000
namespace Go.Pv
open Go Go.Proofs
abbrev q_b : Sh := [(false, .bool)]
abbrev q_ls : Sh := [(false, .li .str)]
def sp_split (x : ByteArray × ByteArray) : Option T := match decide (x.1.size < 4294967281), decide (1 ≤ x.2.size) with
  | true, true => some (Sh.enc q_ls (Lib.splitB x.2 0 (Lib.countB x.1 x.2) x.1))
  | _, _ => none
noncomputable def g_splitS : List T → Option T := gS [(false, .str), (false, .str)] sp_split
theorem g_splitS_at {a b : ByteArray} : g_splitS [T.v (Value.string a), T.v (Value.string b)] = sp_split (a, b) := gS_enc (s := [(false, .str), (false, .str)]) rfl (a, b) rfl
theorem fn_splitS : PureFn Tryz.prog 58 g_splitS := by
  refine ⟨fn_split.entry, fun w own args vs r hG ho ha hg => ?_⟩
  obtain ⟨⟨a, b⟩, rfl, hx⟩ := gS_spec hg
  unfold sp_split at hx
  split at hx
  · rename_i h1 h2
    cases hx
    have hs : gSplit [.v (.string a), .v (.string b)] = some (.sl true ((Lib.splitB b 0 (Lib.countB a b) a).map fun x => [.v (.string x)])) := by
      unfold gSplit
      simp only [h1, h2]
    refine (fn_split.calls w own _ vs _ hG ho ha hs).mono ?_
    rintro e w' ⟨v, rfl, hr, hb⟩
    exact ⟨v, rfl, hr.canon 0, hb⟩
  · cases hx
end Go.Pv
set_option linter.unusedSimpArgs false
set_option linter.unusedVariables false
set_option maxRecDepth 100000
namespace Go.Pv
open Go Go.Proofs
def letterI (n : Int) : Bool := (decide (97 ≤ n) && decide (n ≤ 122)) || (decide (65 ≤ n) && decide (n ≤ 90))
def digitI (n : Int) : Bool := decide (48 ≤ n) && decide (n ≤ 57)
/-- The byte at a place may stand there in a name. -/
def nameAt (i : Nat) (b : UInt8) : Bool := letterI b.toNat || (decide (i ≠ 0) && (digitI b.toNat || decide ((b.toNat : Int) = 95) || decide ((b.toNat : Int) = 45)))
def isName (s : ByteArray) : Bool := decide (s.size ≠ 0) && decide (s.size ≤ 16) && (List.range s.size).all fun i => match s.data[i]? with | some b => nameAt i b | none => true
def sp_letter (n : Int) : Option T := some (Sh.enc q_b (letterI n))
def sp_digit (n : Int) : Option T := some (Sh.enc q_b (digitI n))
def sp_isName04 (s : ByteArray) : Option T := some (Sh.enc q_b (isName s))
abbrev sp_isName := sp_isName04
def sumI (l : List ByteArray) : Int := (l.length : Int) - 1 + sumSz l
def sp_parts (s : ByteArray) : Option T := match decide (s.size ≤ 300) with
  | true => some (Sh.enc q_ls (piecesOf s))
  | false => none
def sp_names (l : List ByteArray) : Option T := match decide (l.length ≤ 65) && decide (sumSz l ≤ 64) with
  | true => some (Sh.enc q_b (l.all isName && (decide (1 ≤ l.length) && decide (l.length ≤ 8) && decide (sumI l ≤ 64))))
  | false => none
def isId (s : ByteArray) : Bool := decide (s.size ≤ 64) && decide ((piecesOf s).length ≤ 8) && (piecesOf s).all isName
def sp_isId (s : ByteArray) : Option T := some (Sh.enc q_b (isId s))
def sp_isId04 (s : ByteArray) : Option T := match decide (s.size ≤ 300) with
  | true => some (Sh.enc q_b (isId s))
  | false => none
theorem all_range {n : Nat} {f : Nat → Bool} : (List.range n).all f = true ↔ ∀ i, i < n → f i = true := by simp
theorem isName_of {s : ByteArray} (h0 : s.size ≠ 0) (h1 : s.size ≤ 16) (h2 : ∀ i b, s.data[i]? = some b → nameAt i b = true) : isName s = true := by
  unfold isName
  simp only [h0, h1, decide_true, Bool.true_and, Bool.and_eq_true, all_range, ne_eq, not_false_eq_true, true_and]
  intro i hi
  split
  · rename_i b hb; exact h2 i b hb
  · rfl
theorem isName_not {s : ByteArray} (h : s.size = 0 ∨ 16 < s.size ∨ ∃ i b, s.data[i]? = some b ∧ nameAt i b = false) : isName s = false := by
  rw [Bool.eq_false_iff]
  intro hn
  unfold isName at hn
  simp only [Bool.and_eq_true, all_range, decide_eq_true_eq] at hn
  rcases h with h | h | ⟨i, b, hb, hf⟩
  · exact hn.1.1 h
  · have := hn.1.2; omega
  · have hi : i < s.size := (Array.getElem?_eq_some_iff.1 hb).1
    have := hn.2 i hi
    rw [hb] at this
    simp only [hf] at this
    cases this
theorem nameAt_zero (b : UInt8) : nameAt 0 b = letterI b.toNat := by simp [nameAt]
theorem byteK_at {s : ByteArray} {k : Nat} {b : UInt8} (h : s.data[k]? = some b) {K : Int → Prop} (hk : K b.toNat) : byteK s (k : Int) K := ⟨b, by omega, by rwa [Int.toNat_natCast], hk⟩
theorem byteK_zero {s : ByteArray} {b : UInt8} (h : s.data[0]? = some b) {K : Int → Prop} (hk : K b.toNat) : byteK s 0 K := ⟨b, by omega, h, hk⟩
theorem emp_iff {s : ByteArray} : s = { data := #[] } ↔ s.size = 0 := ⟨fun e => by subst e; rfl, fun e => ByteArray.ext (Array.eq_empty_of_size_eq_zero e)⟩
theorem get_lt {s : ByteArray} {k : Nat} (h : k < s.size) : ∃ b, s.data[k]? = some b := ⟨s.data[k]'h, by simp⟩
theorem bF (b : Bool) : T.v (Value.bool b) = Sh.enc q_b b := rfl
set_option maxRecDepth 100000
noncomputable def E_isName : Env := Env.of []
def H_isName : FuncId → Hint := fun f => match f == 9 with | true => ⟨fun r => match r == 4 with | true => .inv [.sit 0] | false => .none, fun i j => match i == 6 && j == 6 with | true => some [.val 5 false .bool, .fix 0] | false => match i == 7 && j == 7 with | true => some [.val 6 false .bool, .fix 0] | false => none, fun _ => none⟩ | false => noHint
theorem Eok_isName : EnvOk Tryz.prog E_isName := EnvOk.nil _
def F_isName (a0 : ByteArray) (R : T → Prop) : Prop :=
 iteP (decide (a0 = { data := #[] })) (R (T.v (Value.bool false)))
 (iteP (decide (16 < (↑(ByteArray.size a0) : Int))) (R (T.v (Value.bool false)))
 (loopK ((ByteArray × Nat) × PUnit)
 (fun (X0 : (ByteArray × Nat) × PUnit → Prop) (s1 : (ByteArray × Nat) × PUnit) =>
 iteP (decide (s1.fst.snd < s1.fst.fst.size))
 (joinK (Bool × PUnit × PUnit)
 (fun (X2 : Bool × PUnit × PUnit → Prop) =>
 iteP (decide (65 ≤ (↑(Utf8.decode s1.fst.fst s1.fst.snd).fst : Int)))
 (iteP (decide ((↑(Utf8.decode s1.fst.fst s1.fst.snd).fst : Int) ≤ 90))
 (sameK (Box.sit s1.fst.fst (s1.fst.snd + (Utf8.decode s1.fst.fst s1.fst.snd).snd))
 (Box.sit s1.fst.fst (s1.fst.snd + (Utf8.decode s1.fst.fst s1.fst.snd).snd))
 (X2 (true, (), ())))
 (iteP (decide (97 ≤ (↑(Utf8.decode s1.fst.fst s1.fst.snd).fst : Int)))
 (sameK (Box.sit s1.fst.fst (s1.fst.snd + (Utf8.decode s1.fst.fst s1.fst.snd).snd))
 (Box.sit s1.fst.fst (s1.fst.snd + (Utf8.decode s1.fst.fst s1.fst.snd).snd))
 (X2 (decide ((↑(Utf8.decode s1.fst.fst s1.fst.snd).fst : Int) ≤ 122), (), ())))
 (sameK (Box.sit s1.fst.fst (s1.fst.snd + (Utf8.decode s1.fst.fst s1.fst.snd).snd))
 (Box.sit s1.fst.fst (s1.fst.snd + (Utf8.decode s1.fst.fst s1.fst.snd).snd))
 (X2 (false, (), ())))))
 (iteP (decide (97 ≤ (↑(Utf8.decode s1.fst.fst s1.fst.snd).fst : Int)))
 (sameK (Box.sit s1.fst.fst (s1.fst.snd + (Utf8.decode s1.fst.fst s1.fst.snd).snd))
 (Box.sit s1.fst.fst (s1.fst.snd + (Utf8.decode s1.fst.fst s1.fst.snd).snd))
 (X2 (decide ((↑(Utf8.decode s1.fst.fst s1.fst.snd).fst : Int) ≤ 122), (), ())))
 (sameK (Box.sit s1.fst.fst (s1.fst.snd + (Utf8.decode s1.fst.fst s1.fst.snd).snd))
 (Box.sit s1.fst.fst (s1.fst.snd + (Utf8.decode s1.fst.fst s1.fst.snd).snd))
 (X2 (false, (), ())))))
 fun (s3 : Bool × PUnit × PUnit) =>
 joinK (Bool × PUnit × PUnit)
 (fun (X4 : Bool × PUnit × PUnit → Prop) =>
 iteP (decide (48 ≤ (↑(Utf8.decode s1.fst.fst s1.fst.snd).fst : Int)))
 (iteP (decide ((↑(Utf8.decode s1.fst.fst s1.fst.snd).fst : Int) ≤ 57))
 (sameK (Box.sit s1.fst.fst (s1.fst.snd + (Utf8.decode s1.fst.fst s1.fst.snd).snd))
 (Box.sit s1.fst.fst (s1.fst.snd + (Utf8.decode s1.fst.fst s1.fst.snd).snd))
 (X4 (true, (), ())))
 (iteP (decide ((↑(Utf8.decode s1.fst.fst s1.fst.snd).fst : Int) = 95))
 (sameK (Box.sit s1.fst.fst (s1.fst.snd + (Utf8.decode s1.fst.fst s1.fst.snd).snd))
 (Box.sit s1.fst.fst (s1.fst.snd + (Utf8.decode s1.fst.fst s1.fst.snd).snd))
 (X4 (true, (), ())))
 (sameK (Box.sit s1.fst.fst (s1.fst.snd + (Utf8.decode s1.fst.fst s1.fst.snd).snd))
 (Box.sit s1.fst.fst (s1.fst.snd + (Utf8.decode s1.fst.fst s1.fst.snd).snd))
 (X4 (decide ((↑(Utf8.decode s1.fst.fst s1.fst.snd).fst : Int) = 45), (), ())))))
 (iteP (decide ((↑(Utf8.decode s1.fst.fst s1.fst.snd).fst : Int) = 95))
 (sameK (Box.sit s1.fst.fst (s1.fst.snd + (Utf8.decode s1.fst.fst s1.fst.snd).snd))
 (Box.sit s1.fst.fst (s1.fst.snd + (Utf8.decode s1.fst.fst s1.fst.snd).snd))
 (X4 (true, (), ())))
 (sameK (Box.sit s1.fst.fst (s1.fst.snd + (Utf8.decode s1.fst.fst s1.fst.snd).snd))
 (Box.sit s1.fst.fst (s1.fst.snd + (Utf8.decode s1.fst.fst s1.fst.snd).snd))
 (X4 (decide ((↑(Utf8.decode s1.fst.fst s1.fst.snd).fst : Int) = 45), (), ())))))
 fun (s5 : Bool × PUnit × PUnit) =>
 iteP (!s3.fst)
 (iteP (decide ((↑s1.fst.snd : Int) = 0)) (R (T.v (Value.bool false)))
 (iteP (!s5.fst) (R (T.v (Value.bool false)))
 (X0 ((s1.fst.fst, s1.fst.snd + (Utf8.decode s1.fst.fst s1.fst.snd).snd), ()))))
 (X0 ((s1.fst.fst, s1.fst.snd + (Utf8.decode s1.fst.fst s1.fst.snd).snd), ())))
 (R (T.v (Value.bool true))))
 ((a0, 0), ())))
theorem F_isName_eq (a0 : ByteArray) (R : T → Prop) : sxTop stdC2 Tryz.prog E_isName H_isName 8 9 [encV false Sy.str a0] R = F_isName a0 R := by kernel_rfl
abbrev s_isName : Sh := [(false, Sy.str)]
abbrev r_isName : Sh := [(false, Sy.bool)]
theorem r_isName_call (y : Sh.den r_isName) (K : Sh.den r_isName → Prop) : callK r_isName (some (Sh.enc r_isName y)) K = K y := callK_enc rfl y K

noncomputable def g_isName : List T → Option (T) := gS s_isName sp_isName
theorem g_isName_at {a0 : ByteArray} : g_isName [T.v (Value.string a0)] = sp_isName (a0) := gS_enc (s := s_isName) rfl (a0) rfl
theorem g_isName_op {u0} : g_isName [T.v (Value.string u0)] = sp_isName (u0) := gS_enc (s := s_isName) rfl (u0) rfl
theorem of_isName (h : ∀ (a0 : ByteArray) (r : T), sp_isName (a0) = some r → BdSh s_isName (a0) → F_isName a0 (fun y => y = r)) : PureFn Tryz.prog 9 g_isName :=
  pureFn_S (E := E_isName) (Hs := H_isName) Eok_isName mixed' plain' (noHeap_of rfl) 8 ⟨_, _, Tryz.func9, rfl⟩ rfl fun x r h1 h2 => by
    let a0 := x
    rw [show Sh.encs s_isName (a0) = [encV false Sy.str a0] from rfl, F_isName_eq]
    exact h a0 r h1 h2

theorem letter_tail (c : Int) {K : Bool × PUnit × PUnit → Prop} (hX : K (letterI c, (), ())) : joinK (Bool × PUnit × PUnit) (fun X => iteP (decide (65 ≤ c)) (iteP (decide (c ≤ 90)) (X (true, (), ())) (iteP (decide (97 ≤ c)) (X (decide (c ≤ 122), (), ())) (X (false, (), ())))) (iteP (decide (97 ≤ c)) (X (decide (c ≤ 122), (), ())) (X (false, (), ())))) K := by
  simp only [iteP_def, joinK_def]
  unfold letterI at hX
  by_cases h1 : 65 ≤ c <;> by_cases h2 : c ≤ 90 <;> by_cases h3 : 97 ≤ c <;> by_cases h4 : c ≤ 122 <;> simp [h1, h2, h3, h4] at hX ⊢ <;> first | exact hX | omega
theorem further_tail (c : Int) {K : Bool × PUnit × PUnit → Prop} (hX : K (digitI c || decide (c = 95) || decide (c = 45), (), ())) : joinK (Bool × PUnit × PUnit) (fun X => iteP (decide (48 ≤ c)) (iteP (decide (c ≤ 57)) (X (true, (), ())) (iteP (decide (c = 95)) (X (true, (), ())) (X (decide (c = 45), (), ())))) (iteP (decide (c = 95)) (X (true, (), ())) (X (decide (c = 45), (), ())))) K := by
  simp only [iteP_def, joinK_def]
  unfold digitI at hX
  by_cases h1 : 48 ≤ c <;> by_cases h2 : c ≤ 57 <;> by_cases h3 : c = 95 <;> simp [h1, h2, h3] at hX ⊢ <;> first | exact hX | omega
theorem fn_isName : PureFn Tryz.prog 9 g_isName := of_isName fun s r h hb => by
  have h' : some (Sh.enc q_b (isName s)) = some r := h
  cases h'
  clear h
  unfold F_isName
  by_cases h0 : s.size = 0
  · exact iteP_yes (emp_iff.2 h0) (by rw [isName_not (.inl h0)]; rfl)
  refine iteP_no (fun e => h0 (emp_iff.1 e)) ?_
  by_cases h16 : 16 < s.size
  · exact iteP_yes (by omega) (by rw [isName_not (.inr (.inl h16))]; rfl)
  refine iteP_no (by omega) ?_
  refine loopK_ix s.size (fun k t => t = ((s, k), ()) ∧ ∀ i b, i < k → s.data[i]? = some b → nameAt i b = true) ⟨rfl, by simp⟩ ?_
  rintro X k t hk ⟨rfl, hno⟩ hX
  simp only [sameK_self]
  by_cases hlt : k < s.size
  · refine iteP_yes hlt ?_
    have hb : s.data[k]? = some (s[k]'hlt) := by
      rw [Array.getElem?_eq_getElem hlt]; rfl
    refine letter_tail (Utf8.decode s k).1 ?_
    refine further_tail (Utf8.decode s k).1 ?_
    dsimp only
    have stop : nameAt k (s[k]'hlt) = false → T.v (Value.bool false) = Sh.enc q_b (isName s) := fun hn => by rw [isName_not (.inr (.inr ⟨k, _, hb, hn⟩))]; rfl
    by_cases hasc : (s[k]'hlt).toNat < 128
    · have hd := decode_ascii s k hlt hasc
      have go : nameAt k (s[k]'hlt) = true → X ((s, k + (Utf8.decode s k).2), ()) := fun hn => by
        rw [hd]
        exact hX _ hlt ⟨rfl, fun i b' hi hb' => by
          by_cases e : i = k
          · subst e; rw [hb] at hb'; cases hb'; exact hn
          · exact hno i b' (by omega) hb'⟩
      have e1 : ((Utf8.decode s k).1 : Int) = ((s[k]'hlt).toNat : Int) := by rw [hd]
      rw [e1]
      cases hl : letterI ((s[k]'hlt).toNat : Int) with
      | true => rw [Bool.not_true, iteP_f]; exact go (by simp [nameAt, hl])
      | false =>
        rw [Bool.not_false, iteP_t]
        by_cases hk0 : k = 0
        · exact iteP_yes (by omega) (stop (by subst hk0; rw [nameAt_zero]; exact hl))
        · refine iteP_no (by omega) ?_
          cases hf : (digitI ((s[k]'hlt).toNat : Int) || decide (((s[k]'hlt).toNat : Int) = 95) || decide (((s[k]'hlt).toNat : Int) = 45)) with
          | true => rw [Bool.not_true, iteP_f]; exact go (by unfold nameAt; rw [hl, hf]; simp [hk0])
          | false => rw [Bool.not_false, iteP_t]; exact stop (by unfold nameAt; rw [hl, hf]; simp)
    · obtain ⟨hd1, hd2⟩ := decode_high s k hlt (by omega)
      have hl : letterI ((Utf8.decode s k).1 : Int) = false := by
        unfold letterI; simp; omega
      have hf : (digitI ((Utf8.decode s k).1 : Int) || decide (((Utf8.decode s k).1 : Int) = 95) || decide (((Utf8.decode s k).1 : Int) = 45)) = false := by
        unfold digitI; simp; omega
      have hn : nameAt k (s[k]'hlt) = false := by
        unfold nameAt letterI digitI; simp; omega
      rw [hl, hf, Bool.not_false, iteP_t]
      by_cases hk0 : k = 0
      · exact iteP_yes (by omega) (stop hn)
      · refine iteP_no (by omega) ?_
        rw [iteP_t]
        exact stop hn
  · refine iteP_no hlt ?_
    rw [isName_of h0 (by omega) (fun i b h => hno i b (by have := (Array.getElem?_eq_some_iff.1 h).1; have : i < s.size := this; omega) h)]; rfl
theorem ext_list (s : ByteArray) (f k : Nat) : (s.extract f k).data.toList = (s.data.toList.drop f).take (k - f) := by
  rw [ByteArray.data_extract, Array.toList_extract, List.extract_eq_take_drop]
theorem ext_succ {s : ByteArray} {f k : Nat} {b : UInt8} (h1 : f ≤ k) (h : s.data[k]? = some b) : (s.extract f (k + 1)).data.toList = (s.extract f k).data.toList ++ [b] := by
  rw [ext_list, ext_list]
  have e : k + 1 - f = (k - f) + 1 := by omega
  rw [e, List.take_add_one]
  congr 1
  rw [List.getElem?_drop, show f + (k - f) = k by omega, Array.getElem?_toList, h]; rfl
theorem drop_get {s : ByteArray} {k : Nat} {b : UInt8} (h : s.data[k]? = some b) : s.data.toList.drop k = b :: s.data.toList.drop (k + 1) := by
  obtain ⟨hk, e⟩ := Array.getElem?_eq_some_iff.1 h
  rw [List.drop_eq_getElem_cons (by simpa using hk), Array.getElem_toList, e]
set_option maxRecDepth 100000
noncomputable def E_names : Env := Env.of [(9, .pure g_isName)]
def H_names : FuncId → Hint := fun f => match f == 57 with | true => ⟨fun r => match r == 3 with | true => .inv [.val 3 false (.int .i64), .val 11 false (.int .i64)] | false => .none, fun _ _ => none, fun _ => none⟩ | false => noHint
theorem Eok_names : EnvOk Tryz.prog E_names := EnvOk.cons (x := .pure g_isName) fn_isName (EnvOk.nil _)
def F_names (a0 : List ByteArray) (R : T → Prop) : Prop :=
 loopK (Int × Int × PUnit)
 (fun (X0 : Int × Int × PUnit → Prop) (s1 : Int × Int × PUnit) =>
 iteP (decide (s1.snd.fst < (↑(List.map Sy.str.enc a0).length : Int)))
 (rowsK Sy.str (List.map Sy.str.enc a0) s1.snd.fst fun (y2 : ByteArray) =>
 callK [(false, Sy.bool)] (g_isName [T.v (Value.string y2)]) fun (y3 : Bool) =>
 iteP (!y3) (R (T.v (Value.bool false)))
 (X0 (IntKind.i64.wrap (s1.fst + (↑y2.size : Int)), IntKind.i64.wrap (s1.snd.fst + 1), ())))
 (iteP (decide (1 ≤ (↑(List.map Sy.str.enc a0).length : Int)))
 (iteP (decide ((↑(List.map Sy.str.enc a0).length : Int) ≤ 8))
 (R (T.v (Value.bool (decide (s1.fst ≤ 64))))) (R (T.v (Value.bool false))))
 (R (T.v (Value.bool false)))))
 (IntKind.i64.wrap ((↑(List.map Sy.str.enc a0).length : Int) - 1), 0, ())
theorem F_names_eq (a0 : List ByteArray) (R : T → Prop) : sxTop stdC2 Tryz.prog E_names H_names 8 57 [encV false Sy.str.li a0] R = F_names a0 R := by kernel_rfl
abbrev s_names : Sh := [(false, Sy.str.li)]
abbrev r_names : Sh := [(false, Sy.bool)]
theorem r_names_call (y : Sh.den r_names) (K : Sh.den r_names → Prop) : callK r_names (some (Sh.enc r_names y)) K = K y := callK_enc rfl y K

noncomputable def g_names : List T → Option (T) := gS s_names sp_names
theorem g_names_at {a0 : List ByteArray} : g_names [T.sl false (List.map Sy.str.enc a0)] = sp_names (a0) := gS_enc (s := s_names) rfl (a0) rfl
theorem g_names_op {u0} : g_names [T.sl false (List.map Sy.str.enc u0)] = sp_names (u0) := gS_enc (s := s_names) rfl (u0) rfl
theorem of_names (h : ∀ (a0 : List ByteArray) (r : T), sp_names (a0) = some r → BdSh s_names (a0) → F_names a0 (fun y => y = r)) : PureFn Tryz.prog 57 g_names :=
  pureFn_S (E := E_names) (Hs := H_names) Eok_names mixed' plain' (noHeap_of rfl) 8 ⟨_, _, Tryz.func57, rfl⟩ rfl fun x r h1 h2 => by
    let a0 := x
    rw [show Sh.encs s_names (a0) = [encV false Sy.str.li a0] from rfl, F_names_eq]
    exact h a0 r h1 h2

theorem sumSz_snoc : ∀ (l : List ByteArray) (x : ByteArray), sumSz (l ++ [x]) = sumSz l + x.size
  | [], x => by simp [sumSz]
  | a :: l, x => by simp only [List.cons_append, sumSz, sumSz_snoc l x]; omega
theorem sumSz_take : ∀ (l : List ByteArray) (k : Nat), sumSz (l.take k) ≤ sumSz l
  | [], k => by simp
  | a :: l, 0 => by simp [sumSz]
  | a :: l, k + 1 => by simp only [List.take_succ_cons, sumSz]; have := sumSz_take l k; omega
theorem fn_names : PureFn Tryz.prog 57 g_names := of_names fun l r h hb => by
  unfold sp_names at h
  split at h
  · rename_i hsz
    simp only [Bool.and_eq_true, decide_eq_true_eq] at hsz
    obtain ⟨hl65, hs64⟩ := hsz
    cases h
    unfold F_names
    refine loopK_ix l.length (fun k t => t = ((l.length : Int) - 1 + sumSz (l.take k), (k : Int), ()) ∧ (l.take k).all isName = true) ⟨by
      simp only [List.take_zero, sumSz, List.length_map, Prod.mk.injEq, and_true]
      rw [wrap_id _ (by omega) (by omega)]; simp, by simp⟩ ?_
    rintro X k t hk ⟨rfl, hall⟩ hX
    dsimp only
    by_cases hlt : k < l.length
    · refine iteP_yes (by simp [hlt]) ?_
      rw [rowsK_at (r := .str) hlt]
      refine callK_some (s := q_b) (y := isName l[k]) g_isName_at ?_
      have hsum := sumSz_take l (k + 1)
      have htake : l.take (k + 1) = l.take k ++ [l[k]] := List.take_succ_eq_append_getElem hlt
      cases hn : isName l[k] with
      | false =>
        rw [Bool.not_false, iteP_t]
        have : l.all isName = false := by
          rw [Bool.eq_false_iff]; intro ha
          have := List.all_eq_true.1 ha _ (List.getElem_mem hlt)
          rw [hn] at this; cases this
        rw [this]; rfl
      | true =>
        rw [Bool.not_true, iteP_f]
        rw [htake, sumSz_snoc] at hsum
        refine hX _ hlt ⟨?_, by rw [htake, List.all_append, hall]; simp [hn]⟩
        rw [htake, sumSz_snoc]
        simp only [Prod.mk.injEq, and_true]
        exact ⟨by rw [wrap_id _ (by omega) (by omega)]; simp; omega, wrap_id _ (by omega) (by omega)⟩
    · have : k = l.length := by omega
      subst this
      rw [List.take_length] at hall
      refine iteP_no (by simp) ?_
      rw [List.take_length, hall]
      by_cases h1 : 1 ≤ l.length
      · refine iteP_yes (by simp only [List.length_map]; omega) ?_
        by_cases h2 : l.length ≤ 8
        · refine iteP_yes (by simp only [List.length_map]; omega) ?_
          rw [decide_eq_true h1, decide_eq_true h2]; rfl
        · refine iteP_no (by simp only [List.length_map]; omega) ?_
          rw [decide_eq_false h2, Bool.and_false]; rfl
      · refine iteP_no (by simp only [List.length_map]; omega) ?_
        rw [decide_eq_false h1]; rfl
  · cases h
set_option maxRecDepth 100000
noncomputable def E_isId : Env := Env.of [(58, .pure g_splitS), (57, .pure g_names)]
def H_isId : FuncId → Hint := fun _ => noHint
theorem Eok_isId : EnvOk Tryz.prog E_isId := EnvOk.cons (x := .pure g_splitS) fn_splitS (EnvOk.cons (x := .pure g_names) fn_names (EnvOk.nil _))
def F_isId (a0 : ByteArray) (R : T → Prop) : Prop :=
 iteP (decide ((↑(ByteArray.size a0) : Int) ≤ 64))
 (callK [(false, Sy.str.li)]
 (g_splitS [T.v (Value.string a0), T.v (Value.string { data := #[46] })])
 fun (y0 : List ByteArray) =>
 callK [(false, Sy.bool)] (g_names [T.sl false (List.map Sy.str.enc y0)])
 fun (y1 : Bool) => R (T.v (Value.bool y1)))
 (R (T.v (Value.bool false)))
theorem F_isId_eq (a0 : ByteArray) (R : T → Prop) : sxTop stdC2 Tryz.prog E_isId H_isId 8 38 [encV false Sy.str a0] R = F_isId a0 R := by kernel_rfl
abbrev s_isId : Sh := [(false, Sy.str)]
abbrev r_isId : Sh := [(false, Sy.bool)]
theorem r_isId_call (y : Sh.den r_isId) (K : Sh.den r_isId → Prop) : callK r_isId (some (Sh.enc r_isId y)) K = K y := callK_enc rfl y K

noncomputable def g_isId : List T → Option (T) := gS s_isId sp_isId
theorem g_isId_at {a0 : ByteArray} : g_isId [T.v (Value.string a0)] = sp_isId (a0) := gS_enc (s := s_isId) rfl (a0) rfl
theorem g_isId_op {u0} : g_isId [T.v (Value.string u0)] = sp_isId (u0) := gS_enc (s := s_isId) rfl (u0) rfl
theorem of_isId (h : ∀ (a0 : ByteArray) (r : T), sp_isId (a0) = some r → BdSh s_isId (a0) → F_isId a0 (fun y => y = r)) : PureFn Tryz.prog 38 g_isId :=
  pureFn_S (E := E_isId) (Hs := H_isId) Eok_isId mixed' plain' (noHeap_of rfl) 8 ⟨_, _, Tryz.func38, rfl⟩ rfl fun x r h1 h2 => by
    let a0 := x
    rw [show Sh.encs s_isId (a0) = [encV false Sy.str a0] from rfl, F_isId_eq]
    exact h a0 r h1 h2

theorem fn_isId : PureFn Tryz.prog 38 g_isId := of_isId fun s r h hb => by
  have h' : some (Sh.enc q_b (isId s)) = some r := h
  cases h'
  clear h
  unfold F_isId isId
  by_cases h64 : s.size ≤ 64
  · refine iteP_yes (by omega) ?_
    have hsum := parts_sum s
    have hpos := parts_pos s
    refine callK_some (s := q_ls) (y := piecesOf s) ?_ ?_
    · rw [show g_splitS [T.v (Value.string s), T.v (Value.string { data := #[46] })] = sp_split (s, dot) from g_splitS_at]
      unfold sp_split
      rw [show decide (s.size < 4294967281) = true by simp; omega, show decide (1 ≤ dot.size) = true from rfl]
      rfl
    · refine callK_some (s := q_b) (y := (piecesOf s).all isName && (decide (1 ≤ (piecesOf s).length) && decide ((piecesOf s).length ≤ 8) && decide (sumI (piecesOf s) ≤ 64))) ?_ ?_
      · rw [g_names_at]
        unfold sp_names
        rw [show (decide ((piecesOf s).length ≤ 65) && decide (sumSz (piecesOf s) ≤ 64)) = true by simp; omega]
      · have h1 : decide (1 ≤ (piecesOf s).length) = true := decide_eq_true hpos
        have h2 : decide (sumI (piecesOf s) ≤ 64) = true := decide_eq_true (by unfold sumI; omega)
        have h3 : decide (s.size ≤ 64) = true := decide_eq_true h64
        rw [h1, h2, h3]
        simp [Bool.and_comm, Sh.enc, encV, Sy.enc, hdT]
  · refine iteP_no (by omega) ?_
    rw [decide_eq_false h64]; rfl
end Go.Pv
set_option linter.unusedSimpArgs false
set_option linter.unusedVariables false
set_option maxRecDepth 100000
namespace Go.Pv
open Go Go.Proofs
/-! ### What a map from strings to true holds -/
def Seen (es : List (ByteArray × Bool)) (S : ByteArray → Prop) : Prop := (∀ id b, getL es id = some b → b = true) ∧ ∀ id, getL es id = some true ↔ S id
theorem Seen.nil : Seen [] fun _ => False := ⟨fun id b h => (by cases h), fun id => ⟨fun h => (by cases h), fun h => h.elim⟩⟩
theorem Seen.ins {es : List (ByteArray × Bool)} {S : ByteArray → Prop} (h : Seen es S) (k : ByteArray) : Seen (insL es k true) fun id => S id ∨ k = id := by
  refine ⟨fun id b hb => ?_, fun id => ?_⟩
  · rw [getL_ins] at hb
    split at hb
    · cases hb; rfl
    · exact h.1 id b hb
  · rw [getL_ins]
    split
    · rename_i e; exact ⟨fun _ => .inr e, fun _ => rfl⟩
    · rename_i e; rw [h.2]; exact ⟨.inl, fun h => h.resolve_right e⟩
theorem Seen.congr {es : List (ByteArray × Bool)} {S S' : ByteArray → Prop} (h : Seen es S) (e : ∀ id, S id ↔ S' id) : Seen es S' := ⟨h.1, fun id => (h.2 id).trans (e id)⟩
abbrev RS := List (Value × T) × Nat × List Nat × Nat
theorem entK_M {m : List (ByteArray × Int)} {seen : List Nat} {i : Nat} (hi : i < m.length) (K : ByteArray → Int → Prop) (hk : K m[i].1 m[i].2) : entK .str false (.int .i64) (mpD (encM m)) (seen ++ [i]) K :=
  ⟨i, m[i].1, m[i].2, by simp, by simp only [mpD, encM, List.map_map, List.getElem?_map, List.getElem?_eq_getElem hi]; rfl, hk⟩
theorem chkA {m : List (ByteArray × Int)} {es : List (ByteArray × Bool)} {S : ByteArray → Prop} {R7 K : Prop} (hS : Seen es S) (hbad : (∃ i, ∃ h : i < m.length, S m[i].1) → R7) (hgood : (∀ i (h : i < m.length), ¬ S m[i].1) → K) :
    loopK (RS × PUnit) (fun (X : RS × PUnit → Prop) (s : RS × PUnit) => reqK (decide (s.fst.fst.length ≤ s.fst.snd.fst) && decide (s.fst.snd.fst ≤ s.fst.snd.snd.snd)) (eachK s.fst.fst.length s.fst.snd.snd.fst K fun (i : Nat) =>
      reqK (decide (s.fst.fst.length = s.fst.fst.length)) (entK Sy.str false (Sy.int IntKind.i64) (mpD s.fst.fst) (s.fst.snd.snd.fst ++ [i]) fun (k : ByteArray) (y : Int) =>
        findK TypeDesc.string (Value.string k) (List.map (encE Sy.str false Sy.bool) es) false Sy.bool (X ((s.fst.fst, s.fst.snd.fst, s.fst.snd.snd.fst ++ [i], s.fst.fst.length), ())) fun (j : Nat) (b : Bool) =>
          iteP b R7 (X ((s.fst.fst, s.fst.snd.fst, s.fst.snd.snd.fst ++ [i], s.fst.fst.length), ()))))) ((encM m, (encM m).length, [], (encM m).length), ()) := by
  have hml : (encM m).length = m.length := by simp [encM]
  refine loopK_ix m.length (fun k t => ∃ seen, t = ((encM m, (encM m).length, seen, (encM m).length), ()) ∧ (mitLeft m.length seen).length + k ≤ m.length ∧ ∀ i (h : i < m.length), i ∈ seen → ¬ S m[i].1) ⟨[], rfl, by rw [mitLeft_nil]; omega, by simp⟩ ?_
  rintro X k t hk ⟨seen, rfl, hlen, hJ⟩ hX
  dsimp only
  refine ⟨by simp, ?_, ?_⟩
  · intro hm
    rw [hml] at hm
    refine hgood fun i hi => hJ i hi ?_
    refine Classical.byContradiction fun hc => ?_
    have : i ∈ mitLeft m.length seen := mitLeft_mem.2 ⟨hi, hc⟩
    rw [hm] at this; cases this
  · intro i hi
    rw [hml] at hi
    have hi1 := (mitLeft_mem.1 hi).1
    have hst := mitLeft_step hi
    refine ⟨by simp, entK_M hi1 _ ?_⟩
    have go : ¬ S m[i].1 → X ((encM m, (encM m).length, seen ++ [i], (encM m).length), ()) := fun hn => hX _ (by omega) ⟨_, rfl, by omega, fun j hj hm => by
      rcases List.mem_append.1 hm with h | h
      · exact hJ j hj h
      · simp at h; subst h; exact hn⟩
    refine findK_S (r := .bool) (fun hno => go fun h => ?_) fun j b hb => ?_
    · have := (hS.2 m[i].1).2 h
      rw [hno] at this; cases this
    · have := hS.1 _ _ hb
      subst this
      rw [iteP_t]
      exact hbad ⟨i, hi1, (hS.2 _).1 hb⟩
theorem addB {m : List (ByteArray × Int)} {es : List (ByteArray × Bool)} {S : ByteArray → Prop} {K : List (ByteArray × Bool) × RS × PUnit → Prop} (hS : Seen es S) (hgood : ∀ es' rs, Seen es' (fun id => S id ∨ ∃ i, ∃ h : i < m.length, m[i].1 = id) → K (es', rs, ())) :
    decMK Sy.str false Sy.bool (List.map (encE Sy.str false Sy.bool) es) fun (y : List (ByteArray × Bool)) =>
    loopK (List (ByteArray × Bool) × RS × PUnit) (fun (X : List (ByteArray × Bool) × RS × PUnit → Prop) (s : List (ByteArray × Bool) × RS × PUnit) => reqK (decide (s.snd.fst.fst.length ≤ s.snd.fst.snd.fst) && decide (s.snd.fst.snd.fst ≤ s.snd.fst.snd.snd.snd)) (eachK s.snd.fst.fst.length s.snd.fst.snd.snd.fst (K s) fun (i : Nat) =>
      reqK (decide (s.snd.fst.fst.length = s.snd.fst.fst.length)) (entK Sy.str false (Sy.int IntKind.i64) (mpD s.snd.fst.fst) (s.snd.fst.snd.snd.fst ++ [i]) fun (k : ByteArray) (y : Int) =>
        optK (Option (Nat × D)) (findD TypeDesc.string (keyV Sy.str k) (List.map (encE Sy.str false Sy.bool) s.fst) 0) fun (y37 : Option (Nat × D)) =>
          decMK Sy.str false Sy.bool (setEnt (List.map (encE Sy.str false Sy.bool) s.fst) y37 (Value.string k) (D.p (T.v (Value.bool true)))) fun (y38 : List (ByteArray × Bool)) =>
            X (y38, (s.snd.fst.fst, s.snd.fst.snd.fst, s.snd.fst.snd.snd.fst ++ [i], s.snd.fst.fst.length), ())))) (y, (encM m, (encM m).length, [], (encM m).length), ()) := by
  have hml : (encM m).length = m.length := by simp [encM]
  refine decMK_eS (r := .bool) rfl es _ ?_
  refine loopK_ix m.length (fun k t => ∃ seen es', t = (es', (encM m, (encM m).length, seen, (encM m).length), ()) ∧ (mitLeft m.length seen).length + k ≤ m.length ∧ Seen es' (fun id => S id ∨ ∃ i, ∃ h : i < m.length, i ∈ seen ∧ m[i].1 = id)) ⟨[], es, rfl, by rw [mitLeft_nil]; omega, hS.congr (by simp)⟩ ?_
  rintro X k t hk ⟨seen, es', rfl, hlen, hJ⟩ hX
  dsimp only
  refine ⟨by simp, ?_, ?_⟩
  · intro hm
    rw [hml] at hm
    refine hgood _ _ (hJ.congr fun id => ⟨fun h => h.imp_right fun ⟨i, hi, _, e⟩ => ⟨i, hi, e⟩, fun h => h.imp_right fun ⟨i, hi, e⟩ => ⟨i, hi, ?_, e⟩⟩)
    refine Classical.byContradiction fun hc => ?_
    have : i ∈ mitLeft m.length seen := mitLeft_mem.2 ⟨hi, hc⟩
    rw [hm] at this; cases this
  · intro i hi
    rw [hml] at hi
    have hi1 := (mitLeft_mem.1 hi).1
    have hst := mitLeft_step hi
    refine ⟨by simp, entK_M hi1 _ ?_⟩
    refine ins_S (r := .bool) rfl (es := es') (k := m[i].1) (v := true) (hX _ (by omega) ⟨seen ++ [i], _, rfl, by omega, (hJ.ins _).congr fun id => ⟨?_, ?_⟩⟩)
    · rintro ((h | ⟨j, hj, hm, e⟩) | h)
      · exact .inl h
      · exact .inr ⟨j, hj, by simp [hm], e⟩
      · exact .inr ⟨i, hi1, by simp, h⟩
    · rintro (h | ⟨j, hj, hm, e⟩)
      · exact .inl (.inl h)
      · rcases List.mem_append.1 hm with hm | hm
        · exact .inl (.inr ⟨j, hj, hm, e⟩)
        · simp at hm; subst hm; exact .inr e
/-! ### The order of requirements -/
def ltN (a b : TNeed) : Bool := decide (a.1 < b.1) || (decide (a.1 = b.1) && (sless a.2.1 b.2.1 || (decide (a.2.1 = b.2.1) && sless a.2.2 b.2.2)))
def ascN : List TNeed → Bool
  | a :: b :: l => ltN a b && ascN (b :: l)
  | _ => true
theorem ascN_step {l : List TNeed} {k : Nat} (h : k + 1 < l.length) : ascN (l.drop k) = (ltN l[k] l[k + 1] && ascN (l.drop (k + 1))) := by
  rw [List.drop_eq_getElem_cons (show k < l.length by omega), List.drop_eq_getElem_cons h, ascN]
theorem ascN_end {l : List TNeed} {k : Nat} (h : l.length ≤ k + 1) : ascN (l.drop k) = true := by
  rcases Nat.lt_or_ge k l.length with h1 | h1
  · rw [List.drop_eq_getElem_cons h1, List.drop_eq_nil_of_le h]; rfl
  · rw [List.drop_eq_nil_of_le h1]; rfl
/-! ### The keys of an index -/
theorem insL_keys (k : ByteArray) (v : Int) (id : ByteArray) : ∀ es : List (ByteArray × Int), id ∈ (insL es k v).map (fun e => e.1) ↔ id ∈ es.map (fun e => e.1) ∨ id = k
  | [] => by simp [insL]
  | e :: es => by
    simp only [insL]
    split
    · rename_i h
      simp only [List.map_cons, List.mem_cons]
      rw [← h]
      constructor
      · rintro (h | h)
        · exact .inl (.inl h)
        · exact .inl (.inr h)
      · rintro ((h | h) | h)
        · exact .inl h
        · exact .inr h
        · exact .inl h
    · simp only [List.map_cons, List.mem_cons, insL_keys k v id es, or_assoc]
theorem ixOf_keys (id : ByteArray) : ∀ (l : List ByteArray) (i : Nat) (es : List (ByteArray × Int)), id ∈ (ixOf l i es).map (fun e => e.1) ↔ id ∈ es.map (fun e => e.1) ∨ id ∈ l
  | [], i, es => by simp [ixOf]
  | a :: l, i, es => by
    simp only [ixOf]
    rw [ixOf_keys id l]
    cases h : getL es a with
    | none => simp only [insL_keys, List.mem_cons, or_assoc]
    | some v =>
      simp only [List.mem_cons]
      have ha : a ∈ es.map (fun e => e.1) := by
        rcases getL_cases a es with ⟨h1, _⟩ | ⟨j, hj, h1, _⟩
        · rw [h] at h1; cases h1
        · exact List.mem_map.2 ⟨es[j], List.getElem_mem hj, h1⟩
      constructor
      · rintro (h | h)
        · exact .inl h
        · exact .inr (.inr h)
      · rintro (h | rfl | h)
        · exact .inl h
        · exact .inl ha
        · exact .inr h
theorem ixs_keys {l : List ByteArray} {id : ByteArray} : (∃ i, ∃ h : i < (ixs l).length, (ixs l)[i].1 = id) ↔ id ∈ l := by
  have h := ixOf_keys id l 0 []
  simp only [List.map_nil, List.not_mem_nil, false_or] at h
  rw [← h, List.mem_map]
  constructor
  · rintro ⟨i, hi, e⟩; exact ⟨_, List.getElem_mem hi, e⟩
  · rintro ⟨e, he, h⟩
    obtain ⟨i, hi, rfl⟩ := List.mem_iff_getElem.1 he
    exact ⟨i, hi, h⟩
set_option maxRecDepth 100000
def A_form (a0 : TDesign) (m1 : List (ByteArray × Int)) (m2 : List (ByteArray × Int)) (m3 : List (ByteArray × Int)) (m4 : List (ByteArray × Int)) : List T := [tRef a0 m1 m2 m3 m4]
noncomputable def E_form : Env := Env.of [(33, .pure g_ri)]
def H_form : FuncId → Hint := fun f => match f == 11 with | true => ⟨fun r => match r == 9 with | true => .inv [.val 4 false .bool, .val 5 false (.int .i64)] | false => match r == 17 with | true => .unroll 5 | false => match r == 20 with | true => .alts [[.mitF 30], [.mitF 29], [.mitF 28], [.mitF 27], [.mitF 26], [.mitF 25], [.mitF 24], [.mitF 23], [.mitF 22], [.mitF 21], [.mitF 20], [.mitF 19], [.mitF 18], [.mitF 17], [.mitF 16], [.mitF 15], [.mitF 14], [.mitF 13], [.mitF 12], [.mitF 11], [.mitF 10], [.mitF 9], [.mitF 8], [.mitF 7], [.mitF 6], [.mitF 5], [.mitF 4], [.mitF 3], [.mitF 2]] | false => match r == 25 with | true => .alts [[.map 2 .str false .bool, .mitF 30], [.map 2 .str false .bool, .mitF 29], [.map 2 .str false .bool, .mitF 28], [.map 2 .str false .bool, .mitF 27], [.map 2 .str false .bool, .mitF 26], [.map 2 .str false .bool, .mitF 25], [.map 2 .str false .bool, .mitF 24], [.map 2 .str false .bool, .mitF 23], [.map 2 .str false .bool, .mitF 22], [.map 2 .str false .bool, .mitF 21], [.map 2 .str false .bool, .mitF 20], [.map 2 .str false .bool, .mitF 19], [.map 2 .str false .bool, .mitF 18], [.map 2 .str false .bool, .mitF 17], [.map 2 .str false .bool, .mitF 16], [.map 2 .str false .bool, .mitF 15], [.map 2 .str false .bool, .mitF 14], [.map 2 .str false .bool, .mitF 13], [.map 2 .str false .bool, .mitF 12], [.map 2 .str false .bool, .mitF 11], [.map 2 .str false .bool, .mitF 10], [.map 2 .str false .bool, .mitF 9], [.map 2 .str false .bool, .mitF 8], [.map 2 .str false .bool, .mitF 7], [.map 2 .str false .bool, .mitF 6], [.map 2 .str false .bool, .mitF 5], [.map 2 .str false .bool, .mitF 4], [.map 2 .str false .bool, .mitF 3], [.map 2 .str false .bool, .mitF 2]] | false => .none, fun i j => match i == 5 && j == 5 with | true => some [.val 4 false .bool] | false => match i == 6 && j == 6 with | true => some [.val 4 false .bool] | false => match i == 7 && j == 7 with | true => some [.val 4 false .bool] | false => none, fun r => match r == 21 with | true => some (.str, false, (.int .i64)) | false => match r == 26 with | true => some (.str, false, (.int .i64)) | false => none⟩ | false => noHint
theorem Eok_form : EnvOk Tryz.prog E_form := EnvOk.cons (x := .pure g_ri) fn_ri (EnvOk.nil _)
def F_form (a0 : TDesign) (m1 : List (ByteArray × Int)) (m2 : List (ByteArray × Int)) (m3 : List (ByteArray × Int)) (m4 : List (ByteArray × Int)) (R : T → Prop) : Prop :=
 iteP (decide (64 < (↑(List.map yNode.enc a0.snd.fst).length : Int)))
 (R (T.v (Value.int IntKind.i64 4)))
 (iteP (decide (256 < (↑(List.map yPart.enc a0.snd.snd.fst).length : Int)))
 (R (T.v (Value.int IntKind.i64 4)))
 (iteP (decide (256 < (↑(List.map ySeam.enc a0.snd.snd.snd.fst).length : Int)))
 (R (T.v (Value.int IntKind.i64 4)))
 (iteP (decide (64 < (↑(List.map yPackage.enc a0.snd.snd.snd.snd.fst).length : Int)))
 (R (T.v (Value.int IntKind.i64 4)))
 (iteP (decide (256 < (↑(List.map yNeed.enc a0.snd.snd.snd.snd.snd).length : Int)))
 (R (T.v (Value.int IntKind.i64 4)))
 (callK [(false, Sy.bool)]
 (g_ri
 [T.v (Value.int IntKind.i64 (↑(List.map yNode.enc a0.snd.fst).length : Int)),
 T.fn 34 []
 [T.ref
 [T.ref
 [T.v (Value.string a0.fst), T.sl false (List.map yNode.enc a0.snd.fst),
 T.sl false (List.map yPart.enc a0.snd.snd.fst),
 T.sl false (List.map ySeam.enc a0.snd.snd.snd.fst),
 T.sl false (List.map yPackage.enc a0.snd.snd.snd.snd.fst),
 T.sl false (List.map yNeed.enc a0.snd.snd.snd.snd.snd)]]]])
 fun (y0 : Bool) =>
 joinK (Bool × PUnit)
 (fun (X1 : Bool × PUnit → Prop) =>
 iteP y0
 (callK [(false, Sy.bool)]
 (g_ri
 [T.v
 (Value.int IntKind.i64 (↑(List.map yPart.enc a0.snd.snd.fst).length : Int)),
 T.fn 35 []
 [T.ref
 [T.ref
 [T.v (Value.string a0.fst),
 T.sl false (List.map yNode.enc a0.snd.fst),
 T.sl false (List.map yPart.enc a0.snd.snd.fst),
 T.sl false (List.map ySeam.enc a0.snd.snd.snd.fst),
 T.sl false (List.map yPackage.enc a0.snd.snd.snd.snd.fst),
 T.sl false (List.map yNeed.enc a0.snd.snd.snd.snd.snd)]]]])
 fun (y2 : Bool) => X1 (y2, ()))
 (X1 (false, ())))
 fun (s3 : Bool × PUnit) =>
 joinK (Bool × PUnit)
 (fun (X4 : Bool × PUnit → Prop) =>
 iteP s3.fst
 (callK [(false, Sy.bool)]
 (g_ri
 [T.v
 (Value.int IntKind.i64 (↑(List.map ySeam.enc a0.snd.snd.snd.fst).length : Int)),
 T.fn 36 []
 [T.ref
 [T.ref
 [T.v (Value.string a0.fst),
 T.sl false (List.map yNode.enc a0.snd.fst),
 T.sl false (List.map yPart.enc a0.snd.snd.fst),
 T.sl false (List.map ySeam.enc a0.snd.snd.snd.fst),
 T.sl false (List.map yPackage.enc a0.snd.snd.snd.snd.fst),
 T.sl false (List.map yNeed.enc a0.snd.snd.snd.snd.snd)]]]])
 fun (y5 : Bool) => X4 (y5, ()))
 (X4 (false, ())))
 fun (s6 : Bool × PUnit) =>
 joinK (Bool × PUnit)
 (fun (X7 : Bool × PUnit → Prop) =>
 iteP s6.fst
 (callK [(false, Sy.bool)]
 (g_ri
 [T.v
 (Value.int IntKind.i64
 (↑(List.map yPackage.enc a0.snd.snd.snd.snd.fst).length : Int)),
 T.fn 37 []
 [T.ref
 [T.ref
 [T.v (Value.string a0.fst),
 T.sl false (List.map yNode.enc a0.snd.fst),
 T.sl false (List.map yPart.enc a0.snd.snd.fst),
 T.sl false (List.map ySeam.enc a0.snd.snd.snd.fst),
 T.sl false (List.map yPackage.enc a0.snd.snd.snd.snd.fst),
 T.sl false (List.map yNeed.enc a0.snd.snd.snd.snd.snd)]]]])
 fun (y8 : Bool) => X7 (y8, ()))
 (X7 (false, ())))
 fun (s9 : Bool × PUnit) =>
 loopK (Bool × Int × PUnit)
 (fun (X10 : Bool × Int × PUnit → Prop) (s11 : Bool × Int × PUnit) =>
 iteP
 (decide (s11.snd.fst < (↑(List.map yNeed.enc a0.snd.snd.snd.snd.snd).length : Int)))
 (rowsK yNeed (List.map yNeed.enc a0.snd.snd.snd.snd.snd)
 (IntKind.i64.wrap (s11.snd.fst - 1)) fun (y12 : TNeed) =>
 rowsK yNeed (List.map yNeed.enc a0.snd.snd.snd.snd.snd) s11.snd.fst
 fun (y13 : TNeed) =>
 iteP s11.fst
 (iteP (decide (y12.fst < y13.fst))
 (X10 (true, IntKind.i64.wrap (s11.snd.fst + 1), ()))
 (iteP (decide (y12.fst = y13.fst))
 (iteP (sless y12.snd.fst y13.snd.fst)
 (X10 (true, IntKind.i64.wrap (s11.snd.fst + 1), ()))
 (iteP (decide (y12.snd.fst = y13.snd.fst))
 (X10
 (sless y12.snd.snd y13.snd.snd, IntKind.i64.wrap (s11.snd.fst + 1),
 ()))
 (X10 (false, IntKind.i64.wrap (s11.snd.fst + 1), ()))))
 (X10 (false, IntKind.i64.wrap (s11.snd.fst + 1), ()))))
 (X10 (false, IntKind.i64.wrap (s11.snd.fst + 1), ())))
 (iteP (!s11.fst) (R (T.v (Value.int IntKind.i64 11)))
 (loopK ((List (Value × T) × Nat × List Nat × Nat) × PUnit)
 (fun (X14 : (List (Value × T) × Nat × List Nat × Nat) × PUnit → Prop)
 (s15 : (List (Value × T) × Nat × List Nat × Nat) × PUnit) =>
 reqK
 (decide (s15.fst.fst.length ≤ s15.fst.snd.fst) &&
 decide (s15.fst.snd.fst ≤ s15.fst.snd.snd.snd))
 (eachK s15.fst.fst.length s15.fst.snd.snd.fst
 (decMK Sy.str false Sy.bool []
 fun (y16 : List (ByteArray × Bool)) =>
 loopK
 (List (ByteArray × Bool) ×
 (List (Value × T) × Nat × List Nat × Nat) × PUnit)
 (fun
 (X17 :
 List (ByteArray × Bool) ×
 (List (Value × T) × Nat × List Nat × Nat) × PUnit →
 Prop)
 (s18 :
 List (ByteArray × Bool) ×
 (List (Value × T) × Nat × List Nat × Nat) × PUnit) =>
 reqK
 (decide (s18.snd.fst.fst.length ≤ s18.snd.fst.snd.fst) &&
 decide (s18.snd.fst.snd.fst ≤ s18.snd.fst.snd.snd.snd))
 (eachK s18.snd.fst.fst.length s18.snd.fst.snd.snd.fst
 (loopK ((List (Value × T) × Nat × List Nat × Nat) × PUnit)
 (fun
 (X19 :
 (List (Value × T) × Nat × List Nat × Nat) × PUnit → Prop)
 (s20 : (List (Value × T) × Nat × List Nat × Nat) × PUnit) =>
 reqK
 (decide (s20.fst.fst.length ≤ s20.fst.snd.fst) &&
 decide (s20.fst.snd.fst ≤ s20.fst.snd.snd.snd))
 (eachK s20.fst.fst.length s20.fst.snd.snd.fst
 (decMK Sy.str false Sy.bool
 (List.map (encE Sy.str false Sy.bool) s18.fst)
 fun (y21 : List (ByteArray × Bool)) =>
 loopK
 (List (ByteArray × Bool) ×
 (List (Value × T) × Nat × List Nat × Nat) × PUnit)
 (fun
 (X22 :
 List (ByteArray × Bool) ×
 (List (Value × T) × Nat × List Nat × Nat) ×
 PUnit →
 Prop)
 (s23 :
 List (ByteArray × Bool) ×
 (List (Value × T) × Nat × List Nat × Nat) ×
 PUnit) =>
 reqK
 (decide (s23.snd.fst.fst.length ≤ s23.snd.fst.snd.fst) &&
 decide (s23.snd.fst.snd.fst ≤ s23.snd.fst.snd.snd.snd))
 (eachK s23.snd.fst.fst.length s23.snd.fst.snd.snd.fst
 (loopK
 ((List (Value × T) × Nat × List Nat × Nat) ×
 PUnit)
 (fun
 (X24 :
 (List (Value × T) ×
 Nat × List Nat × Nat) ×
 PUnit →
 Prop)
 (s25 :
 (List (Value × T) ×
 Nat × List Nat × Nat) ×
 PUnit) =>
 reqK
 (decide (s25.fst.fst.length ≤ s25.fst.snd.fst) &&
 decide (s25.fst.snd.fst ≤ s25.fst.snd.snd.snd))
 (eachK s25.fst.fst.length s25.fst.snd.snd.fst
 (decMK Sy.str false Sy.bool
 (List.map
 (encE Sy.str false Sy.bool)
 s23.fst)
 fun (y26 : List (ByteArray × Bool)) =>
 loopK
 (List (ByteArray × Bool) ×
 (List (Value × T) ×
 Nat × List Nat × Nat) ×
 PUnit)
 (fun
 (X27 :
 List (ByteArray × Bool) ×
 (List (Value × T) ×
 Nat × List Nat × Nat) ×
 PUnit →
 Prop)
 (s28 :
 List (ByteArray × Bool) ×
 (List (Value × T) ×
 Nat × List Nat × Nat) ×
 PUnit) =>
 reqK
 (decide
 (s28.snd.fst.fst.length ≤
 s28.snd.fst.snd.fst) &&
 decide
 (s28.snd.fst.snd.fst ≤
 s28.snd.fst.snd.snd.snd))
 (eachK s28.snd.fst.fst.length
 s28.snd.fst.snd.snd.fst
 (loopK
 ((List (Value × T) ×
 Nat × List Nat × Nat) ×
 PUnit)
 (fun
 (X29 :
 (List (Value × T) ×
 Nat × List Nat × Nat) ×
 PUnit →
 Prop)
 (s30 :
 (List (Value × T) ×
 Nat × List Nat × Nat) ×
 PUnit) =>
 reqK
 (decide
 (s30.fst.fst.length ≤
 s30.fst.snd.fst) &&
 decide
 (s30.fst.snd.fst ≤
 s30.fst.snd.snd.snd))
 (eachK s30.fst.fst.length
 s30.fst.snd.snd.fst
 (decMK Sy.str false
 Sy.bool
 (List.map
 (encE Sy.str
 false Sy.bool)
 s28.fst)
 fun
 (y31 :
 List
 (ByteArray × Bool)) =>
 loopK
 (List (ByteArray × Bool) ×
 (List
 (Value ×
 T) ×
 Nat ×
 List Nat × Nat) ×
 PUnit)
 (fun
 (X32 :
 List
 (ByteArray ×
 Bool) ×
 (List
 (Value ×
 T) ×
 Nat ×
 List Nat ×
 Nat) ×
 PUnit →
 Prop)
 (s33 :
 List
 (ByteArray ×
 Bool) ×
 (List
 (Value ×
 T) ×
 Nat ×
 List Nat ×
 Nat) ×
 PUnit) =>
 reqK
 (decide
 (s33.snd.fst.fst.length ≤
 s33.snd.fst.snd.fst) &&
 decide
 (s33.snd.fst.snd.fst ≤
 s33.snd.fst.snd.snd.snd))
 (eachK
 s33.snd.fst.fst.length
 s33.snd.fst.snd.snd.fst
 (R
 (T.v
 (Value.int
 IntKind.i64
 0)))
 fun (i34 : Nat) =>
 reqK
 (decide
 (s33.snd.fst.fst.length =
 s33.snd.fst.fst.length))
 (entK
 Sy.str false
 (Sy.int
 IntKind.i64)
 (mpD
 s33.snd.fst.fst)
 (s33.snd.fst.snd.snd.fst ++
 [i34])
 fun
 (k35 :
 ByteArray)
 (y36 : Int) =>
 optK
 (Option
 (Nat ×
 D))
 (findD
 TypeDesc.string
 (keyV
 Sy.str
 k35)
 (List.map
 (encE
 Sy.str
 false
 Sy.bool)
 s33.fst)
 0)
 fun
 (y37 :
 Option
 (Nat ×
 D)) =>
 decMK
 Sy.str
 false
 Sy.bool
 (setEnt
 (List.map
 (encE
 Sy.str
 false
 Sy.bool)
 s33.fst)
 y37
 (Value.string
 k35)
 (D.p
 (T.v
 (Value.bool
 true))))
 fun
 (y38 :
 List
 (ByteArray ×
 Bool)) =>
 X32
 (y38,
 (s33.snd.fst.fst,
 s33.snd.fst.snd.fst,
 s33.snd.fst.snd.snd.fst ++
 [i34],
 s33.snd.fst.fst.length),
 ()))))
 (y31,
 (encM m4,
 (encM m4).length,
 [],
 (encM m4).length),
 ()))
 fun (i39 : Nat) =>
 reqK
 (decide
 (s30.fst.fst.length =
 s30.fst.fst.length))
 (entK Sy.str false
 (Sy.int
 IntKind.i64)
 (mpD s30.fst.fst)
 (s30.fst.snd.snd.fst ++
 [i39])
 fun (k40 : ByteArray)
 (y41 : Int) =>
 findK
 TypeDesc.string
 (Value.string k40)
 (List.map
 (encE Sy.str
 false Sy.bool)
 s28.fst)
 false Sy.bool
 (X29
 ((s30.fst.fst,
 s30.fst.snd.fst,
 s30.fst.snd.snd.fst ++
 [i39],
 s30.fst.fst.length),
 ()))
 fun (i42 : Nat)
 (y43 : Bool) =>
 iteP y43
 (R
 (T.v
 (Value.int
 IntKind.i64
 7)))
 (X29
 ((s30.fst.fst,
 s30.fst.snd.fst,
 s30.fst.snd.snd.fst ++
 [i39],
 s30.fst.fst.length),
 ())))))
 ((encM m4,
 (encM m4).length, [],
 (encM m4).length),
 ()))
 fun (i44 : Nat) =>
 reqK
 (decide
 (s28.snd.fst.fst.length =
 s28.snd.fst.fst.length))
 (entK Sy.str false
 (Sy.int IntKind.i64)
 (mpD s28.snd.fst.fst)
 (s28.snd.fst.snd.snd.fst ++ [i44])
 fun (k45 : ByteArray) (y46 : Int) =>
 optK (Option (Nat × D))
 (findD TypeDesc.string
 (keyV Sy.str k45)
 (List.map
 (encE Sy.str false
 Sy.bool)
 s28.fst)
 0)
 fun
 (y47 :
 Option (Nat × D)) =>
 decMK Sy.str false
 Sy.bool
 (setEnt
 (List.map
 (encE Sy.str
 false Sy.bool)
 s28.fst)
 y47 (Value.string k45)
 (D.p
 (T.v
 (Value.bool true))))
 fun
 (y48 :
 List (ByteArray × Bool)) =>
 X27
 (y48,
 (s28.snd.fst.fst,
 s28.snd.fst.snd.fst,
 s28.snd.fst.snd.snd.fst ++
 [i44],
 s28.snd.fst.fst.length),
 ()))))
 (y26,
 (encM m3, (encM m3).length, [],
 (encM m3).length),
 ()))
 fun (i49 : Nat) =>
 reqK
 (decide
 (s25.fst.fst.length = s25.fst.fst.length))
 (entK Sy.str false
 (Sy.int IntKind.i64)
 (mpD s25.fst.fst)
 (s25.fst.snd.snd.fst ++ [i49])
 fun (k50 : ByteArray) (y51 : Int) =>
 findK TypeDesc.string
 (Value.string k50)
 (List.map
 (encE Sy.str false
 Sy.bool)
 s23.fst)
 false Sy.bool
 (X24
 ((s25.fst.fst, s25.fst.snd.fst,
 s25.fst.snd.snd.fst ++ [i49],
 s25.fst.fst.length),
 ()))
 fun (i52 : Nat) (y53 : Bool) =>
 iteP y53
 (R
 (T.v
 (Value.int IntKind.i64 7)))
 (X24
 ((s25.fst.fst, s25.fst.snd.fst,
 s25.fst.snd.snd.fst ++ [i49],
 s25.fst.fst.length),
 ())))))
 ((encM m3, (encM m3).length, [],
 (encM m3).length),
 ()))
 fun (i54 : Nat) =>
 reqK
 (decide
 (s23.snd.fst.fst.length = s23.snd.fst.fst.length))
 (entK Sy.str false
 (Sy.int IntKind.i64)
 (mpD s23.snd.fst.fst)
 (s23.snd.fst.snd.snd.fst ++ [i54])
 fun (k55 : ByteArray) (y56 : Int) =>
 optK (Option (Nat × D))
 (findD TypeDesc.string
 (keyV Sy.str k55)
 (List.map
 (encE Sy.str false Sy.bool)
 s23.fst)
 0)
 fun (y57 : Option (Nat × D)) =>
 decMK Sy.str false Sy.bool
 (setEnt
 (List.map
 (encE Sy.str false Sy.bool)
 s23.fst)
 y57 (Value.string k55)
 (D.p (T.v (Value.bool true))))
 fun (y58 : List (ByteArray × Bool)) =>
 X22
 (y58,
 (s23.snd.fst.fst, s23.snd.fst.snd.fst,
 s23.snd.fst.snd.snd.fst ++ [i54],
 s23.snd.fst.fst.length),
 ()))))
 (y21,
 (encM m2, (encM m2).length, [],
 (encM m2).length),
 ()))
 fun (i59 : Nat) =>
 reqK (decide (s20.fst.fst.length = s20.fst.fst.length))
 (entK Sy.str false (Sy.int IntKind.i64)
 (mpD s20.fst.fst) (s20.fst.snd.snd.fst ++ [i59])
 fun (k60 : ByteArray) (y61 : Int) =>
 findK TypeDesc.string (Value.string k60)
 (List.map (encE Sy.str false Sy.bool)
 s18.fst)
 false Sy.bool
 (X19
 ((s20.fst.fst, s20.fst.snd.fst,
 s20.fst.snd.snd.fst ++ [i59], s20.fst.fst.length),
 ()))
 fun (i62 : Nat) (y63 : Bool) =>
 iteP y63 (R (T.v (Value.int IntKind.i64 7)))
 (X19
 ((s20.fst.fst, s20.fst.snd.fst,
 s20.fst.snd.snd.fst ++ [i59], s20.fst.fst.length),
 ())))))
 ((encM m2, (encM m2).length, [], (encM m2).length), ()))
 fun (i64 : Nat) =>
 reqK (decide (s18.snd.fst.fst.length = s18.snd.fst.fst.length))
 (entK Sy.str false (Sy.int IntKind.i64)
 (mpD s18.snd.fst.fst) (s18.snd.fst.snd.snd.fst ++ [i64])
 fun (k65 : ByteArray) (y66 : Int) =>
 optK (Option (Nat × D))
 (findD TypeDesc.string (keyV Sy.str k65)
 (List.map (encE Sy.str false Sy.bool) s18.fst) 0)
 fun (y67 : Option (Nat × D)) =>
 decMK Sy.str false Sy.bool
 (setEnt
 (List.map (encE Sy.str false Sy.bool) s18.fst)
 y67 (Value.string k65)
 (D.p (T.v (Value.bool true))))
 fun (y68 : List (ByteArray × Bool)) =>
 X17
 (y68,
 (s18.snd.fst.fst, s18.snd.fst.snd.fst,
 s18.snd.fst.snd.snd.fst ++ [i64], s18.snd.fst.fst.length),
 ()))))
 (y16, (encM m1, (encM m1).length, [], (encM m1).length), ()))
 fun (i69 : Nat) =>
 reqK (decide (s15.fst.fst.length = s15.fst.fst.length))
 (entK Sy.str false (Sy.int IntKind.i64) (mpD s15.fst.fst)
 (s15.fst.snd.snd.fst ++ [i69]) fun (k70 : ByteArray) (y71 : Int) =>
 findK TypeDesc.string (Value.string k70) [] false Sy.bool
 (X14
 ((s15.fst.fst, s15.fst.snd.fst, s15.fst.snd.snd.fst ++ [i69],
 s15.fst.fst.length),
 ()))
 fun (i72 : Nat) (y73 : Bool) =>
 iteP y73 (R (T.v (Value.int IntKind.i64 7)))
 (X14
 ((s15.fst.fst, s15.fst.snd.fst, s15.fst.snd.snd.fst ++ [i69],
 s15.fst.fst.length),
 ())))))
 ((encM m1, (encM m1).length, [], (encM m1).length), ()))))
 (s9.fst, 1, ()))))))
theorem F_form_eq (a0 : TDesign) (m1 : List (ByteArray × Int)) (m2 : List (ByteArray × Int)) (m3 : List (ByteArray × Int)) (m4 : List (ByteArray × Int)) (R : T → Prop) : sxTop stdC2 Tryz.prog E_form H_form 8 11 (A_form a0 m1 m2 m3 m4) R = F_form a0 m1 m2 m3 m4 R := by kernel_rfl
abbrev r_form : Sh := [(false, Sy.int IntKind.i64)]
theorem r_form_call (y : Sh.den r_form) (K : Sh.den r_form → Prop) : callK r_form (some (Sh.enc r_form y)) K = K y := callK_enc rfl y K

abbrev MP := List (ByteArray × Int)
theorem encM_inj {a b : MP} (h : encM a = encM b) : a = b := map_inj (fun x y h => by
  simp only [Prod.mk.injEq, Value.string.injEq, T.v.injEq, Value.int.injEq, true_and] at h
  exact Prod.ext h.1 h.2) h
theorem tRef_inj {x y : TDesign × MP × MP × MP × MP} (h : tRef x.1 x.2.1 x.2.2.1 x.2.2.2.1 x.2.2.2.2 = tRef y.1 y.2.1 y.2.2.1 y.2.2.2.1 y.2.2.2.2) : x = y := by
  simp only [tRef, T.ref.injEq, List.cons.injEq, T.mp.injEq, and_true] at h
  obtain ⟨h0, h1, h2, h3, h4⟩ := h
  exact Prod.ext (Sy.enc_inj yDesign _ _ h0) (Prod.ext (encM_inj h1) (Prod.ext (encM_inj h2) (Prod.ext (encM_inj h3) (encM_inj h4))))
theorem A_form_inj (x y : TDesign × MP × MP × MP × MP) (h : A_form x.1 x.2.1 x.2.2.1 x.2.2.2.1 x.2.2.2.2 = A_form y.1 y.2.1 y.2.2.1 y.2.2.2.1 y.2.2.2.2) : x = y := tRef_inj (List.cons.inj h).1
def tooLong (d : TDesign) : Bool := decide (64 < d.2.1.length) || decide (256 < d.2.2.1.length) || decide (256 < d.2.2.2.1.length) || decide (64 < d.2.2.2.2.1.length) || decide (256 < d.2.2.2.2.2.length)
def inOrder (d : TDesign) : Bool := asc (ids d.2.1) && asc (ids d.2.2.1) && asc (ids d.2.2.2.1) && asc (ids d.2.2.2.2.1) && ascN d.2.2.2.2.2
def dup4 (l1 l2 l3 l4 : List ByteArray) : Bool := (l2.any (memB l1)) || (l3.any fun x => memB l1 x || memB l2 x) || (l4.any fun x => memB l1 x || memB l2 x || memB l3 x)
def dupD (d : TDesign) : Bool := dup4 (ids d.2.1) (ids d.2.2.1) (ids d.2.2.2.1) (ids d.2.2.2.2.1)
def formE (d : TDesign) : Int := if tooLong d = true then 4 else if inOrder d = false then 11 else if dupD d = true then 7 else 0
/-- The maps are the design's indices, and the lists are of a size that fits. -/
def okTr (x : TDesign × MP × MP × MP × MP) : Bool := decide (x.2.1 = ixs (ids x.1.2.1)) && decide (x.2.2.1 = ixs (ids x.1.2.2.1)) && decide (x.2.2.2.1 = ixs (ids x.1.2.2.2.1)) && decide (x.2.2.2.2 = ixs (ids x.1.2.2.2.2.1)) &&
  (decide (x.1.2.1.length ≤ 140737488355328) && decide (x.1.2.2.1.length ≤ 140737488355328) && decide (x.1.2.2.2.1.length ≤ 140737488355328) && decide (x.1.2.2.2.2.1.length ≤ 140737488355328) && decide (x.1.2.2.2.2.2.length ≤ 140737488355328))
structure SmallD (d : TDesign) : Prop where
  n : d.2.1.length ≤ 140737488355328
  p : d.2.2.1.length ≤ 140737488355328
  s : d.2.2.2.1.length ≤ 140737488355328
  k : d.2.2.2.2.1.length ≤ 140737488355328
  r : d.2.2.2.2.2.length ≤ 140737488355328
theorem okTr_iff {x : TDesign × MP × MP × MP × MP} : okTr x = true ↔ x = (x.1, ixs (ids x.1.2.1), ixs (ids x.1.2.2.1), ixs (ids x.1.2.2.2.1), ixs (ids x.1.2.2.2.2.1)) ∧ SmallD x.1 := by
  obtain ⟨d, a, b, c, e⟩ := x
  simp only [okTr, Bool.and_eq_true, decide_eq_true_eq, Prod.mk.injEq, true_and]
  constructor
  · rintro ⟨⟨⟨⟨rfl, rfl⟩, rfl⟩, rfl⟩, ⟨⟨⟨h1, h2⟩, h3⟩, h4⟩, h5⟩
    exact ⟨⟨rfl, rfl, rfl, rfl⟩, h1, h2, h3, h4, h5⟩
  · rintro ⟨⟨rfl, rfl, rfl, rfl⟩, h1, h2, h3, h4, h5⟩
    exact ⟨⟨⟨⟨rfl, rfl⟩, rfl⟩, rfl⟩, ⟨⟨⟨h1, h2⟩, h3⟩, h4⟩, h5⟩
def onlyT (x : TDesign × MP × MP × MP × MP) (t : T) : Option T := match okTr x with
  | true => some t
  | false => none
theorem onlyT_of {x : TDesign × MP × MP × MP × MP} {t r : T} (h : onlyT x t = some r) : x = (x.1, ixs (ids x.1.2.1), ixs (ids x.1.2.2.1), ixs (ids x.1.2.2.2.1), ixs (ids x.1.2.2.2.2.1)) ∧ SmallD x.1 ∧ r = t := by
  unfold onlyT at h; split at h
  · rename_i hc
    cases h
    exact ⟨(okTr_iff.1 hc).1, (okTr_iff.1 hc).2, rfl⟩
  · cases h
/-- The tree of a design. -/
abbrev treeA (d : TDesign) : T := tRef d (ixs (ids d.2.1)) (ixs (ids d.2.2.1)) (ixs (ids d.2.2.2.1)) (ixs (ids d.2.2.2.2.1))
theorem onlyT_ok {d : TDesign} (h : SmallD d) (t : T) : onlyT (d, ixs (ids d.2.1), ixs (ids d.2.2.1), ixs (ids d.2.2.2.1), ixs (ids d.2.2.2.2.1)) t = some t := by
  unfold onlyT; rw [okTr_iff.2 ⟨rfl, h⟩]
def sp_form (x : TDesign × MP × MP × MP × MP) : Option T := onlyT x (T.v (Value.int .i64 (formE x.1)))
noncomputable def g_form : List T → Option (T) := gA (fun (x : TDesign × (List (ByteArray × Int)) × (List (ByteArray × Int)) × (List (ByteArray × Int)) × List (ByteArray × Int)) => A_form x.1 x.2.1 x.2.2.1 x.2.2.2.1 x.2.2.2.2) sp_form
theorem g_form_at (a0 : TDesign) (m1 : List (ByteArray × Int)) (m2 : List (ByteArray × Int)) (m3 : List (ByteArray × Int)) (m4 : List (ByteArray × Int)) : g_form (A_form a0 m1 m2 m3 m4) = sp_form (a0, m1, m2, m3, m4) := gA_at (A := (fun (x : TDesign × (List (ByteArray × Int)) × (List (ByteArray × Int)) × (List (ByteArray × Int)) × List (ByteArray × Int)) => A_form x.1 x.2.1 x.2.2.1 x.2.2.2.1 x.2.2.2.2)) A_form_inj (a0, m1, m2, m3, m4)
theorem of_form (h : ∀ (a0 : TDesign) (m1 : List (ByteArray × Int)) (m2 : List (ByteArray × Int)) (m3 : List (ByteArray × Int)) (m4 : List (ByteArray × Int)) (r : T), sp_form (a0, m1, m2, m3, m4) = some r → (∀ t ∈ A_form a0 m1 m2 m3 m4, Bd t) → F_form a0 m1 m2 m3 m4 (fun y => y = r)) : PureFn Tryz.prog 11 g_form :=
  pureFn_A (E := E_form) (Hs := H_form) Eok_form mixed' plain' (noHeap_of rfl) 8 ⟨_, _, Tryz.func11, rfl⟩ fun x r h1 h2 => by
    rw [F_form_eq]
    exact h x.1 x.2.1 x.2.2.1 x.2.2.2.1 x.2.2.2.2 r h1 h2

theorem ri_call {A : List T} {b : Bool} (h : g_ri A = some (T.v (Value.bool b))) (K : Bool → Prop) (hk : K b) : callK [(false, Sy.bool)] (g_ri A) K := callK_some (s := [(false, Sy.bool)]) (y := b) h hk
theorem fn_form : PureFn Tryz.prog 11 g_form := of_form fun d m1 m2 m3 m4 r h hb => by
  obtain ⟨hx, hs, rfl⟩ := onlyT_of h
  simp only [Prod.mk.injEq, true_and] at hx
  obtain ⟨rfl, rfl, rfl, rfl⟩ := hx
  clear h
  have is : ∀ {n : Int}, formE d = n → T.v (Value.int IntKind.i64 n) = T.v (Value.int IntKind.i64 (formE d)) := fun h => by rw [h]
  have long : tooLong d = true → formE d = 4 := fun h => by unfold formE; rw [if_pos h]
  unfold F_form
  refine ifP (fun h => is (long (by rw [List.length_map] at h; simp only [tooLong, Bool.or_eq_true, decide_eq_true_eq]; omega))) fun l1 => ?_
  refine ifP (fun h => is (long (by rw [List.length_map] at h; simp only [tooLong, Bool.or_eq_true, decide_eq_true_eq]; omega))) fun l2 => ?_
  refine ifP (fun h => is (long (by rw [List.length_map] at h; simp only [tooLong, Bool.or_eq_true, decide_eq_true_eq]; omega))) fun l3 => ?_
  refine ifP (fun h => is (long (by rw [List.length_map] at h; simp only [tooLong, Bool.or_eq_true, decide_eq_true_eq]; omega))) fun l4 => ?_
  refine ifP (fun h => is (long (by rw [List.length_map] at h; simp only [tooLong, Bool.or_eq_true, decide_eq_true_eq]; omega))) fun l5 => ?_
  rw [List.length_map] at l1 l2 l3 l4 l5
  have notLong : tooLong d = false := by simp only [tooLong, Bool.or_eq_false_iff, decide_eq_false_iff_not]; omega
  refine ri_call (by rw [List.length_map]; exact g_ri_1 hs.n) _ ?_
  have step : ∀ {b c : Bool} {A : List T} {Z : Bool × PUnit → Prop}, g_ri A = some (T.v (Value.bool c)) → Z (b && c, ()) → joinK (Bool × PUnit) (fun (X : Bool × PUnit → Prop) => iteP b (callK [(false, Sy.bool)] (g_ri A) fun (y2 : Bool) => X (y2, ())) (X (false, ()))) Z := fun {b c A Z} hA hZ => by
    rw [joinK_def]
    cases b with
    | true => rw [iteP_t]; exact ri_call hA _ hZ
    | false => rw [iteP_f]; exact hZ
  refine step (by rw [List.length_map]; exact g_ri_2 hs.p) ?_
  refine step (by rw [List.length_map]; exact g_ri_3 hs.s) ?_
  refine step (by rw [List.length_map]; exact g_ri_4 hs.k) ?_
  refine loopK_ix d.2.2.2.2.2.length (fun k s => ∃ b, s = (b, ((k + 1 : Nat) : Int), ()) ∧ (b && ascN (d.2.2.2.2.2.drop k)) = inOrder d) ⟨_, rfl, by rw [List.drop_zero]; rfl⟩ ?_
  rintro X k s hk ⟨b, rfl, he⟩ hX
  dsimp only
  have hr := hs.r
  have hw : IntKind.i64.wrap (((k + 1 : Nat) : Int) + 1) = ((k + 1 + 1 : Nat) : Int) := wrap_id _ (by omega) (by omega)
  have hw1 : IntKind.i64.wrap (((k + 1 : Nat) : Int) - 1) = ((k : Nat) : Int) := by rw [wrap_id _ (by omega) (by omega)]; omega
  refine ifP (fun hlt => ?_) fun hge => ?_
  · have hlt : k + 1 < d.2.2.2.2.2.length := by rw [List.length_map] at hlt; omega
    rw [hw1, rowsK_at (r := yNeed) (show k < d.2.2.2.2.2.length by omega), rowsK_at (r := yNeed) hlt, hw]
    rw [ascN_step hlt] at he
    have go : ∀ c, (b && ltN d.2.2.2.2.2[k] d.2.2.2.2.2[k + 1]) = c → X (c, ((k + 1 + 1 : Nat) : Int), ()) := fun c hc => hX _ (by omega) ⟨c, rfl, by rw [← hc, Bool.and_assoc]; exact he⟩
    generalize d.2.2.2.2.2[k] = u at go
    generalize d.2.2.2.2.2[k + 1] = v at go
    cases b with
    | false => rw [iteP_f]; exact go _ rfl
    | true =>
      rw [iteP_t]
      simp only [Bool.true_and, ltN] at go
      refine ifP (fun h => go _ (by simp [h])) fun h1 => ?_
      refine ifP (fun h2 => ?_) fun h2 => go _ (by simp [h1, h2])
      refine ifB (fun h3 => go _ (by simp [h2, h3])) fun h3 => ?_
      refine ifP (fun h4 => go _ (by rw [decide_eq_false h1, decide_eq_true h2, h3, decide_eq_true h4]; rfl)) fun h4 => go _ (by rw [decide_eq_false h1, decide_eq_true h2, h3, decide_eq_false h4]; rfl)
  · rw [List.length_map] at hge
    rw [ascN_end (by omega), Bool.and_true] at he
    refine ifNB (fun h => is (by unfold formE; rw [notLong, if_neg (by simp), ← he, h]; rfl)) fun h => ?_
    have dup : dupD d = true → T.v (Value.int IntKind.i64 7) = T.v (Value.int IntKind.i64 (formE d)) := fun h7 => is (by unfold formE; rw [notLong, if_neg (by simp), ← he, h, if_neg (by simp), if_pos h7])
    have dup' : (∃ i, ∃ h : i < (ixs (ids d.2.2.1)).length, (ixs (ids d.2.2.1))[i].1 ∈ ids d.2.1) ∨ (∃ i, ∃ h : i < (ixs (ids d.2.2.2.1)).length, (ixs (ids d.2.2.2.1))[i].1 ∈ ids d.2.1 ∨ (ixs (ids d.2.2.2.1))[i].1 ∈ ids d.2.2.1) ∨ (∃ i, ∃ h : i < (ixs (ids d.2.2.2.2.1)).length, ((ixs (ids d.2.2.2.2.1))[i].1 ∈ ids d.2.1 ∨ (ixs (ids d.2.2.2.2.1))[i].1 ∈ ids d.2.2.1) ∨ (ixs (ids d.2.2.2.2.1))[i].1 ∈ ids d.2.2.2.1) → dupD d = true := by
      intro h
      simp only [dupD, dup4, Bool.or_eq_true, List.any_eq_true, memB_iff]
      rcases h with ⟨i, hi, h⟩ | ⟨i, hi, h⟩ | ⟨i, hi, h⟩
      · exact .inl (.inl ⟨_, ixs_keys.1 ⟨i, hi, rfl⟩, h⟩)
      · exact .inl (.inr ⟨_, ixs_keys.1 ⟨i, hi, rfl⟩, h⟩)
      · exact .inr ⟨_, ixs_keys.1 ⟨i, hi, rfl⟩, h⟩
    have m1 := fun id => (@ixs_keys (ids d.2.1) id)
    refine chkA (m := ixs (ids d.2.1)) (es := []) (R7 := T.v (Value.int IntKind.i64 7) = T.v (Value.int IntKind.i64 (formE d))) Seen.nil (fun h => by obtain ⟨_, _, h⟩ := h; exact h.elim) fun _ => ?_
    refine addB (m := ixs (ids d.2.1)) (es := []) Seen.nil fun e1 rs1 s1 => ?_
    have s1 := s1.congr (S' := fun id => id ∈ ids d.2.1) fun id => by rw [ixs_keys]; simp
    refine chkA (m := ixs (ids d.2.2.1)) s1 (fun h => dup (dup' (.inl h))) fun n1 => ?_
    refine addB (m := ixs (ids d.2.2.1)) s1 fun e2 rs2 s2 => ?_
    have s2 := s2.congr (S' := fun id => id ∈ ids d.2.1 ∨ id ∈ ids d.2.2.1) fun id => by rw [ixs_keys]
    refine chkA (m := ixs (ids d.2.2.2.1)) s2 (fun h => dup (dup' (.inr (.inl h)))) fun n2 => ?_
    refine addB (m := ixs (ids d.2.2.2.1)) s2 fun e3 rs3 s3 => ?_
    have s3 := s3.congr (S' := fun id => (id ∈ ids d.2.1 ∨ id ∈ ids d.2.2.1) ∨ id ∈ ids d.2.2.2.1) fun id => by rw [ixs_keys]
    refine chkA (m := ixs (ids d.2.2.2.2.1)) s3 (fun h => dup (dup' (.inr (.inr h)))) fun n3 => ?_
    refine addB (m := ixs (ids d.2.2.2.2.1)) s3 fun e4 rs4 s4 => is ?_
    have nd : dupD d = false := by
      rw [Bool.eq_false_iff]
      intro h
      simp only [dupD, dup4, Bool.or_eq_true, List.any_eq_true, memB_iff] at h
      rcases h with (⟨x, hx, h⟩ | ⟨x, hx, h⟩) | ⟨x, hx, h⟩
      · obtain ⟨i, hi, rfl⟩ := ixs_keys.2 hx; exact n1 i hi h
      · obtain ⟨i, hi, rfl⟩ := ixs_keys.2 hx; exact n2 i hi h
      · obtain ⟨i, hi, rfl⟩ := ixs_keys.2 hx; exact n3 i hi h
    unfold formE; rw [notLong, if_neg (by simp), ← he, h, if_neg (by simp), nd, if_neg (by simp)]
end Go.Pv
set_option linter.unusedSimpArgs false
set_option linter.unusedVariables false
set_option maxRecDepth 100000
namespace Go.Pv
open Go Go.Proofs
/-- A function of which nothing is said. -/
def g_nil : List T → Option T := fun _ => none
theorem PureFn.nil {P : Program} {f : FuncId} (h : ∃ fn, P.funcs[f]? = some fn ∧ (fn.name == "runtime.NumGoroutine") = false ∧ fn.body.isNone = false) : PureFn P f g_nil := ⟨h, fun _ _ _ _ _ _ _ _ h => by cases h⟩
theorem mpD_encM (es : MP) : mpD (encM es) = List.map (encE Sy.str false (Sy.int IntKind.i64)) es := by
  unfold mpD encM
  rw [List.map_map]; rfl
theorem getL_ixOf {α : Type} (id : ByteArray) : ∀ (l : List (ByteArray × α)) (i : Nat) (es : MP), (∃ v, getL es id = some v ∧ getL (ixOf (ids l) i es) id = some v) ∨ (getL es id = none ∧ getL (ixOf (ids l) i es) id = none ∧ l.find? (fun s => decide (s.1 = id)) = none) ∨
    (getL es id = none ∧ ∃ k, ∃ h : k < l.length, getL (ixOf (ids l) i es) id = some ((i + k : Nat) : Int) ∧ l.find? (fun s => decide (s.1 = id)) = some l[k])
  | [], i, es => by
    cases h : getL es id with
    | none => exact .inr (.inl ⟨rfl, by simpa [ids, ixOf] using h, rfl⟩)
    | some v => exact .inl ⟨v, rfl, by simpa [ids, ixOf] using h⟩
  | a :: l, i, es => by
    have hs : ids (a :: l) = a.1 :: ids l := rfl
    rw [hs]
    simp only [ixOf]
    have ih := getL_ixOf id l (i + 1) (match getL es a.1 with | none => insL es a.1 (i : Int) | some _ => es)
    by_cases ha : a.1 = id
    · subst ha
      cases hc : getL es a.1 with
      | some v =>
        simp only [hc] at ih ⊢
        rcases ih with ⟨v', h1, h2⟩ | ⟨h1, _⟩ | ⟨h1, _⟩
        · exact .inl ⟨v', h1, h2⟩
        · cases h1
        · cases h1
      | none =>
        simp only [hc] at ih ⊢
        have hg : getL (insL es a.1 (i : Int)) a.1 = some (i : Int) := by rw [getL_ins]; simp
        rw [hg] at ih
        rcases ih with ⟨v', h1, h2⟩ | ⟨h1, _⟩ | ⟨h1, _⟩
        · cases h1
          exact .inr (.inr ⟨by first | rfl | trivial, 0, by simp, by simpa using h2, by simp⟩)
        · cases h1
        · cases h1
    · have hg : getL (match getL es a.1 with | none => insL es a.1 (i : Int) | some _ => es) id = getL es id := by
        cases hc : getL es a.1 with
        | none => simp only [getL_ins, ha, if_false]
        | some v => rfl
      rw [hg] at ih
      rcases ih with ⟨v', h1, h2⟩ | ⟨h1, h2, h3⟩ | ⟨h1, k, hk, h2, h3⟩
      · exact .inl ⟨v', h1, h2⟩
      · exact .inr (.inl ⟨h1, h2, by rw [List.find?_cons_of_neg (by simpa using ha)]; exact h3⟩)
      · exact .inr (.inr ⟨h1, k + 1, by simpa using hk, h2.trans (by congr 2; omega), by rw [List.find?_cons_of_neg (by simpa using ha)]; simpa using h3⟩)
theorem getL_ixs {α : Type} (id : ByteArray) (l : List (ByteArray × α)) : (getL (ixs (ids l)) id = none ∧ l.find? (fun s => decide (s.1 = id)) = none) ∨ (∃ k, ∃ h : k < l.length, getL (ixs (ids l)) id = some (k : Int) ∧ l.find? (fun s => decide (s.1 = id)) = some l[k]) := by
  rcases getL_ixOf id l 0 [] with ⟨v, h, _⟩ | ⟨_, h1, h2⟩ | ⟨_, k, hk, h1, h2⟩
  · cases h
  · exact .inl ⟨h1, h2⟩
  · exact .inr ⟨k, hk, h1.trans (by rw [Nat.zero_add]), h2⟩
/-- One looks into the index of a list. -/
theorem ixK {α : Type} {id : ByteArray} {l : List (ByteArray × α)} {A : Prop} {B : Nat → Int → Prop} (hA : l.find? (fun s => decide (s.1 = id)) = none → A) (hB : ∀ i k (h : k < l.length), l.find? (fun s => decide (s.1 = id)) = some l[k] → B i (k : Int)) :
    findK TypeDesc.string (Value.string id) (mpD (encM (ixs (ids l)))) false (Sy.int IntKind.i64) A B := by
  rw [mpD_encM]
  refine findK_S (r := .int .i64) (fun h => hA ?_) fun i v h => ?_
  · rcases getL_ixs id l with ⟨_, h2⟩ | ⟨k, hk, h1, _⟩
    · exact h2
    · rw [h] at h1; cases h1
  · rcases getL_ixs id l with ⟨h1, _⟩ | ⟨k, hk, h1, h2⟩
    · rw [h] at h1; cases h1
    · rw [h] at h1; cases h1; exact hB i k hk h2
set_option maxRecDepth 100000
def A_tclimb (a0 : TDesign) (m1 : List (ByteArray × Int)) (m2 : List (ByteArray × Int)) (m3 : List (ByteArray × Int)) (m4 : List (ByteArray × Int)) (a5 : ByteArray) : List T := [tRef a0 m1 m2 m3 m4, T.v (Value.string a5)]
noncomputable def E_tclimb : Env := Env.of []
def H_tclimb : FuncId → Hint := fun f => match f == 59 with | true => ⟨fun r => match r == 3 with | true => .inv [.val 1 false .str, .own 6 1 .str, .val 9 false (.int .i64)] | false => .none, fun _ _ => none, fun _ => none⟩ | false => noHint
theorem Eok_tclimb : EnvOk Tryz.prog E_tclimb := EnvOk.nil _
def F_tclimb (a0 : TDesign) (m1 : List (ByteArray × Int)) (m2 : List (ByteArray × Int)) (m3 : List (ByteArray × Int)) (m4 : List (ByteArray × Int)) (a5 : ByteArray) (R : T → Prop) : Prop :=
 loopK (ByteArray × List ByteArray × Int × PUnit)
 (fun (X0 : ByteArray × List ByteArray × Int × PUnit → Prop) (s1 : ByteArray × List ByteArray × Int × PUnit) =>
 iteP (decide (s1.snd.snd.fst < 65))
 (findK TypeDesc.string (Value.string s1.fst) (mpD (encM m1)) false
 (Sy.int IntKind.i64) (R (T.tup [T.sl false [], T.v (Value.bool false)]))
 fun (i2 : Nat) (y3 : Int) =>
 rowsK yNode (List.map yNode.enc a0.snd.fst) y3 fun (y4 : TNode) =>
 reqK
 (decide (((List.map Sy.str.enc s1.snd.fst).length + 1) * 16 ≤ 140737488355328) &&
 decide ((List.map Sy.str.enc s1.snd.fst).length + 1 ≤ 140737488355328))
 (iteP (decide (y4.snd.fst = 1))
 (R
 (T.tup
 [T.sl false (List.map Sy.str.enc s1.snd.fst ++ [[T.v (Value.string s1.fst)]]),
 T.v (Value.bool true)]))
 (decK Sy.str (List.map Sy.str.enc s1.snd.fst ++ [[T.v (Value.string s1.fst)]])
 fun (y5 : List ByteArray) => X0 (y4.snd.snd, y5, IntKind.i64.wrap (s1.snd.snd.fst + 1), ()))))
 (R (T.tup [T.sl false [], T.v (Value.bool false)])))
 (a5, [], 0, ())
theorem F_tclimb_eq (a0 : TDesign) (m1 : List (ByteArray × Int)) (m2 : List (ByteArray × Int)) (m3 : List (ByteArray × Int)) (m4 : List (ByteArray × Int)) (a5 : ByteArray) (R : T → Prop) : sxTop stdC2 Tryz.prog E_tclimb H_tclimb 8 39 (A_tclimb a0 m1 m2 m3 m4 a5) R = F_tclimb a0 m1 m2 m3 m4 a5 R := by kernel_rfl
abbrev r_tclimb : Sh := [(false, Sy.str.li), (false, Sy.bool)]
theorem r_tclimb_call (y : Sh.den r_tclimb) (K : Sh.den r_tclimb → Prop) : callK r_tclimb (some (Sh.enc r_tclimb y)) K = K y := callK_enc rfl y K

theorem A_tclimb_inj (x y : TDesign × MP × MP × MP × MP × ByteArray) (h : A_tclimb x.1 x.2.1 x.2.2.1 x.2.2.2.1 x.2.2.2.2.1 x.2.2.2.2.2 = A_tclimb y.1 y.2.1 y.2.2.1 y.2.2.2.1 y.2.2.2.2.1 y.2.2.2.2.2) : x = y := by
  obtain ⟨h1, h2⟩ := List.cons.inj h
  have := tRef_inj (x := (x.1, x.2.1, x.2.2.1, x.2.2.2.1, x.2.2.2.2.1)) (y := (y.1, y.2.1, y.2.2.1, y.2.2.2.1, y.2.2.2.2.1)) h1
  simp only [List.cons.injEq, T.v.injEq, Value.string.injEq, and_true] at h2
  simp only [Prod.mk.injEq] at this
  obtain ⟨e1, e2, e3, e4, e5⟩ := this
  exact Prod.ext e1 (Prod.ext e2 (Prod.ext e3 (Prod.ext e4 (Prod.ext e5 h2))))
def sp_tclimb (x : TDesign × MP × MP × MP × MP × ByteArray) : Option T := onlyT (x.1, x.2.1, x.2.2.1, x.2.2.2.1, x.2.2.2.2.1) (Sh.enc [(false, .li .str), (false, .bool)] (up x.1 x.2.2.2.2.2))
noncomputable def g_tclimb : List T → Option (T) := gA (fun (x : TDesign × (List (ByteArray × Int)) × (List (ByteArray × Int)) × (List (ByteArray × Int)) × (List (ByteArray × Int)) × ByteArray) => A_tclimb x.1 x.2.1 x.2.2.1 x.2.2.2.1 x.2.2.2.2.1 x.2.2.2.2.2) sp_tclimb
theorem g_tclimb_at (a0 : TDesign) (m1 : List (ByteArray × Int)) (m2 : List (ByteArray × Int)) (m3 : List (ByteArray × Int)) (m4 : List (ByteArray × Int)) (a5 : ByteArray) : g_tclimb (A_tclimb a0 m1 m2 m3 m4 a5) = sp_tclimb (a0, m1, m2, m3, m4, a5) := gA_at (A := (fun (x : TDesign × (List (ByteArray × Int)) × (List (ByteArray × Int)) × (List (ByteArray × Int)) × (List (ByteArray × Int)) × ByteArray) => A_tclimb x.1 x.2.1 x.2.2.1 x.2.2.2.1 x.2.2.2.2.1 x.2.2.2.2.2)) A_tclimb_inj (a0, m1, m2, m3, m4, a5)
theorem of_tclimb (h : ∀ (a0 : TDesign) (m1 : List (ByteArray × Int)) (m2 : List (ByteArray × Int)) (m3 : List (ByteArray × Int)) (m4 : List (ByteArray × Int)) (a5 : ByteArray) (r : T), sp_tclimb (a0, m1, m2, m3, m4, a5) = some r → (∀ t ∈ A_tclimb a0 m1 m2 m3 m4 a5, Bd t) → F_tclimb a0 m1 m2 m3 m4 a5 (fun y => y = r)) : PureFn Tryz.prog 39 g_tclimb :=
  pureFn_A (E := E_tclimb) (Hs := H_tclimb) Eok_tclimb mixed' plain' (noHeap_of rfl) 8 ⟨_, _, Tryz.func39, rfl⟩ fun x r h1 h2 => by
    rw [F_tclimb_eq]
    exact h x.1 x.2.1 x.2.2.1 x.2.2.2.1 x.2.2.2.2.1 x.2.2.2.2.2 r h1 h2

theorem fn_tclimb : PureFn Tryz.prog 39 g_tclimb := of_tclimb fun d m1 m2 m3 m4 id0 r h hb => by
  obtain ⟨hx, hs, rfl⟩ := onlyT_of h
  simp only [Prod.mk.injEq, true_and] at hx
  obtain ⟨rfl, rfl, rfl, rfl⟩ := hx
  clear h
  unfold F_tclimb
  refine loopK_ix 65 (fun k s => ∃ id' l', s = (id', l', (k : Int), ()) ∧ l'.length = k ∧ upF d (65 - k) id' l' = up d id0) ⟨id0, [], rfl, rfl, rfl⟩ ?_
  rintro X k s hk ⟨id', l', rfl, hl, hu⟩ hX
  dsimp only
  have stop : up d id0 = ([], false) → T.tup [T.sl false [], T.v (Value.bool false)] = Sh.enc [(false, .li .str), (false, .bool)] (up d id0) := fun h => by rw [h]; rfl
  refine ifP (fun hlt => ?_) fun hge => stop ?_
  · have hlt : k < 65 := by omega
    obtain ⟨m, hm⟩ : ∃ m, 65 - k = m + 1 := ⟨64 - k, by omega⟩
    rw [hm] at hu
    simp only [upF] at hu
    refine ixK (fun hn => stop ?_) fun i j hj hn => ?_
    · have hn : nodeOf d id' = none := hn
      rw [hn] at hu; exact hu.symm
    · have hn : nodeOf d id' = some d.2.1[j] := hn
      simp only [hn] at hu
      rw [rowsK_at (r := yNode) hj, app_ok (by omega), dec_snoc]
      refine ifP (fun h1 => ?_) fun h1 => ?_
      · rw [if_pos h1] at hu
        rw [← hu, enc_snoc]; rfl
      · rw [if_neg h1] at hu
        exact hX _ hlt ⟨_, _, by rw [show IntKind.i64.wrap ((k : Int) + 1) = ((k + 1 : Nat) : Int) from wrap_id _ (by omega) (by omega)], by simp [hl], by rw [← hu]; congr 1; omega⟩
  · have : 65 - k = 0 := by omega
    rw [this] at hu
    exact hu.symm
/-- The first error of a list's elements. -/
def nodeE (d : TDesign) (n : TNode) : Int := if isId n.1 = false then 6 else if ¬ n.2.1 = 1 ∧ ¬ n.2.1 = 2 then 10 else if n.2.1 = 1 ∧ ¬ n.2.2 = { data := #[] } then 2 else if n.2.1 = 2 ∧ (nodeOf d n.2.2).isNone = true then 8 else 0
def noUp (d : TDesign) : Bool := d.2.1.any fun n => !(up d n.1).2
def deepD (d : TDesign) : Bool := d.2.1.any fun n => decide (8 < (up d n.1).1.length)
def nodesE (d : TDesign) : Int := if firstE (nodeE d) d.2.1 = 0 then (if noUp d = true then 20 else if deepD d = true then 13 else 0) else firstE (nodeE d) d.2.1
set_option maxRecDepth 100000
def A_cNodes (a0 : TDesign) (m1 : List (ByteArray × Int)) (m2 : List (ByteArray × Int)) (m3 : List (ByteArray × Int)) (m4 : List (ByteArray × Int)) : List T := [tRef a0 m1 m2 m3 m4]
noncomputable def E_cNodes : Env := Env.of [(38, .pure g_isId), (39, .pure g_tclimb)]
def H_cNodes : FuncId → Hint := fun f => match f == 12 with | true => ⟨fun r => match r == 2 with | true => .inv [.val 20 false (.int .i64)] | false => match r == 16 with | true => .inv [.val 7 false .bool, .val 74 false (.int .i64)] | false => .none, fun _ _ => none, fun _ => none⟩ | false => noHint
theorem Eok_cNodes : EnvOk Tryz.prog E_cNodes := EnvOk.cons (x := .pure g_isId) fn_isId (EnvOk.cons (x := .pure g_tclimb) fn_tclimb (EnvOk.nil _))
def F_cNodes (a0 : TDesign) (m1 : List (ByteArray × Int)) (m2 : List (ByteArray × Int)) (m3 : List (ByteArray × Int)) (m4 : List (ByteArray × Int)) (R : T → Prop) : Prop :=
 loopK (Int × PUnit)
 (fun (X0 : Int × PUnit → Prop) (s1 : Int × PUnit) =>
 iteP (decide (s1.fst < (↑(List.map yNode.enc a0.snd.fst).length : Int)))
 (rowsK yNode (List.map yNode.enc a0.snd.fst) s1.fst fun (y2 : TNode) =>
 findK TypeDesc.string (Value.string y2.snd.snd) (mpD (encM m1)) false
 (Sy.int IntKind.i64)
 (callK [(false, Sy.bool)] (g_isId [T.v (Value.string y2.fst)]) fun (y6 : Bool) =>
 iteP (!y6) (R (T.v (Value.int IntKind.i64 6)))
 (iteP (!decide (y2.snd.fst = 1))
 (iteP (!decide (y2.snd.fst = 2)) (R (T.v (Value.int IntKind.i64 10)))
 (iteP (decide (y2.snd.fst = 1))
 (iteP (!decide (y2.snd.snd = { data := #[] })) (R (T.v (Value.int IntKind.i64 2)))
 (iteP (decide (y2.snd.fst = 2)) (R (T.v (Value.int IntKind.i64 8)))
 (X0 (IntKind.i64.wrap (s1.fst + 1), ()))))
 (iteP (decide (y2.snd.fst = 2)) (R (T.v (Value.int IntKind.i64 8)))
 (X0 (IntKind.i64.wrap (s1.fst + 1), ())))))
 (iteP (decide (y2.snd.fst = 1))
 (iteP (!decide (y2.snd.snd = { data := #[] })) (R (T.v (Value.int IntKind.i64 2)))
 (iteP (decide (y2.snd.fst = 2)) (R (T.v (Value.int IntKind.i64 8)))
 (X0 (IntKind.i64.wrap (s1.fst + 1), ()))))
 (iteP (decide (y2.snd.fst = 2)) (R (T.v (Value.int IntKind.i64 8)))
 (X0 (IntKind.i64.wrap (s1.fst + 1), ()))))))
 fun (i3 : Nat) (y4 : Int) =>
 callK [(false, Sy.bool)] (g_isId [T.v (Value.string y2.fst)]) fun (y5 : Bool) =>
 iteP (!y5) (R (T.v (Value.int IntKind.i64 6)))
 (iteP (!decide (y2.snd.fst = 1))
 (iteP (!decide (y2.snd.fst = 2)) (R (T.v (Value.int IntKind.i64 10)))
 (iteP (decide (y2.snd.fst = 1))
 (iteP (!decide (y2.snd.snd = { data := #[] })) (R (T.v (Value.int IntKind.i64 2)))
 (iteP (decide (y2.snd.fst = 2)) (X0 (IntKind.i64.wrap (s1.fst + 1), ()))
 (X0 (IntKind.i64.wrap (s1.fst + 1), ()))))
 (iteP (decide (y2.snd.fst = 2)) (X0 (IntKind.i64.wrap (s1.fst + 1), ()))
 (X0 (IntKind.i64.wrap (s1.fst + 1), ())))))
 (iteP (decide (y2.snd.fst = 1))
 (iteP (!decide (y2.snd.snd = { data := #[] })) (R (T.v (Value.int IntKind.i64 2)))
 (iteP (decide (y2.snd.fst = 2)) (X0 (IntKind.i64.wrap (s1.fst + 1), ()))
 (X0 (IntKind.i64.wrap (s1.fst + 1), ()))))
 (iteP (decide (y2.snd.fst = 2)) (X0 (IntKind.i64.wrap (s1.fst + 1), ()))
 (X0 (IntKind.i64.wrap (s1.fst + 1), ()))))))
 (loopK (Bool × Int × PUnit)
 (fun (X7 : Bool × Int × PUnit → Prop) (s8 : Bool × Int × PUnit) =>
 iteP (decide (s8.snd.fst < (↑(List.map yNode.enc a0.snd.fst).length : Int)))
 (rowsK yNode (List.map yNode.enc a0.snd.fst) s8.snd.fst fun (y9 : TNode) =>
 callK [(false, Sy.str.li), (false, Sy.bool)]
 (g_tclimb
 [T.ref
 [T.ref
 [T.v (Value.string a0.fst), T.sl false (List.map yNode.enc a0.snd.fst),
 T.sl false (List.map yPart.enc a0.snd.snd.fst),
 T.sl false (List.map ySeam.enc a0.snd.snd.snd.fst),
 T.sl false (List.map yPackage.enc a0.snd.snd.snd.snd.fst),
 T.sl false (List.map yNeed.enc a0.snd.snd.snd.snd.snd)],
 T.mp (encM m1), T.mp (encM m2), T.mp (encM m3),
 T.mp (encM m4)],
 T.v (Value.string y9.fst)])
 fun (y10 : List ByteArray × Bool) =>
 iteP (!y10.snd) (R (T.v (Value.int IntKind.i64 20)))
 (iteP s8.fst (X7 (true, IntKind.i64.wrap (s8.snd.fst + 1), ()))
 (X7
 (decide (8 < (↑(List.map Sy.str.enc y10.fst).length : Int)),
 IntKind.i64.wrap (s8.snd.fst + 1), ()))))
 (iteP s8.fst (R (T.v (Value.int IntKind.i64 13)))
 (R (T.v (Value.int IntKind.i64 0)))))
 (false, 0, ())))
 (0, ())
theorem F_cNodes_eq (a0 : TDesign) (m1 : List (ByteArray × Int)) (m2 : List (ByteArray × Int)) (m3 : List (ByteArray × Int)) (m4 : List (ByteArray × Int)) (R : T → Prop) : sxTop stdC2 Tryz.prog E_cNodes H_cNodes 8 12 (A_cNodes a0 m1 m2 m3 m4) R = F_cNodes a0 m1 m2 m3 m4 R := by kernel_rfl
abbrev r_cNodes : Sh := [(false, Sy.int IntKind.i64)]
theorem r_cNodes_call (y : Sh.den r_cNodes) (K : Sh.den r_cNodes → Prop) : callK r_cNodes (some (Sh.enc r_cNodes y)) K = K y := callK_enc rfl y K

theorem A_cNodes_inj (x y : TDesign × MP × MP × MP × MP) (h : A_cNodes x.1 x.2.1 x.2.2.1 x.2.2.2.1 x.2.2.2.2 = A_cNodes y.1 y.2.1 y.2.2.1 y.2.2.2.1 y.2.2.2.2) : x = y := tRef_inj (List.cons.inj h).1
def sp_cNodes (x : TDesign × MP × MP × MP × MP) : Option T := onlyT x (T.v (Value.int .i64 (nodesE x.1)))
noncomputable def g_cNodes : List T → Option (T) := gA (fun (x : TDesign × (List (ByteArray × Int)) × (List (ByteArray × Int)) × (List (ByteArray × Int)) × List (ByteArray × Int)) => A_cNodes x.1 x.2.1 x.2.2.1 x.2.2.2.1 x.2.2.2.2) sp_cNodes
theorem g_cNodes_at (a0 : TDesign) (m1 : List (ByteArray × Int)) (m2 : List (ByteArray × Int)) (m3 : List (ByteArray × Int)) (m4 : List (ByteArray × Int)) : g_cNodes (A_cNodes a0 m1 m2 m3 m4) = sp_cNodes (a0, m1, m2, m3, m4) := gA_at (A := (fun (x : TDesign × (List (ByteArray × Int)) × (List (ByteArray × Int)) × (List (ByteArray × Int)) × List (ByteArray × Int)) => A_cNodes x.1 x.2.1 x.2.2.1 x.2.2.2.1 x.2.2.2.2)) A_cNodes_inj (a0, m1, m2, m3, m4)
theorem of_cNodes (h : ∀ (a0 : TDesign) (m1 : List (ByteArray × Int)) (m2 : List (ByteArray × Int)) (m3 : List (ByteArray × Int)) (m4 : List (ByteArray × Int)) (r : T), sp_cNodes (a0, m1, m2, m3, m4) = some r → (∀ t ∈ A_cNodes a0 m1 m2 m3 m4, Bd t) → F_cNodes a0 m1 m2 m3 m4 (fun y => y = r)) : PureFn Tryz.prog 12 g_cNodes :=
  pureFn_A (E := E_cNodes) (Hs := H_cNodes) Eok_cNodes mixed' plain' (noHeap_of rfl) 8 ⟨_, _, Tryz.func12, rfl⟩ fun x r h1 h2 => by
    rw [F_cNodes_eq]
    exact h x.1 x.2.1 x.2.2.1 x.2.2.2.1 x.2.2.2.2 r h1 h2

theorem g_tclimb_ok {d : TDesign} (hs : SmallD d) (id : ByteArray) : g_tclimb (A_tclimb d (ixs (ids d.2.1)) (ixs (ids d.2.2.1)) (ixs (ids d.2.2.2.1)) (ixs (ids d.2.2.2.2.1)) id) = some (Sh.enc [(false, .li .str), (false, .bool)] (up d id)) := by
  rw [g_tclimb_at]; exact onlyT_ok hs _
theorem isId_call (s : ByteArray) (K : Bool → Prop) : callK [(false, Sy.bool)] (g_isId [T.v (Value.string s)]) K = K (isId s) := by
  rw [show g_isId [T.v (Value.string s)] = sp_isId s from g_isId_at]
  exact r_isId_call _ K
theorem fn_cNodes : PureFn Tryz.prog 12 g_cNodes := of_cNodes fun d m1 m2 m3 m4 r h hb => by
  obtain ⟨hx, hs, rfl⟩ := onlyT_of h
  simp only [Prod.mk.injEq, true_and] at hx
  obtain ⟨rfl, rfl, rfl, rfl⟩ := hx
  clear h
  have is : ∀ {n : Int}, nodesE d = n → T.v (Value.int IntKind.i64 n) = T.v (Value.int IntKind.i64 (nodesE d)) := fun h => by rw [h]
  unfold F_cNodes
  refine first_loop (r := yNode) (nodeE d) hs.n (fun X s y hy hok hbad => ?_) fun h0 => ?_
  · have bad : ∀ {n : Int}, n ≠ 0 → nodeE d y = n → T.v (Value.int IntKind.i64 n) = T.v (Value.int IntKind.i64 (nodesE d)) := fun hn h => is (by
      have := hbad (by rw [h]; exact hn)
      unfold nodesE
      rw [if_neg (by rw [this, h]; exact hn), this, h])
    have tail : ∀ {Z2 Z : Prop}, isId y.1 = true → (y.2.1 = 2 → Z2) → (nodeE d y = 0 → Z) → 
      iteP (!decide (y.snd.fst = 1))
                (iteP (!decide (y.snd.fst = 2)) (T.v (Value.int IntKind.i64 10) = T.v (Value.int IntKind.i64 (nodesE d)))
                  (iteP (decide (y.snd.fst = 1))
                    (iteP (!decide (y.snd.snd = { data := #[] })) (T.v (Value.int IntKind.i64 2) = T.v (Value.int IntKind.i64 (nodesE d)))
                      (iteP (decide (y.snd.fst = 2)) Z2 Z))
                    (iteP (decide (y.snd.fst = 2)) Z2 Z)))
                (iteP (decide (y.snd.fst = 1))
                  (iteP (!decide (y.snd.snd = { data := #[] })) (T.v (Value.int IntKind.i64 2) = T.v (Value.int IntKind.i64 (nodesE d)))
                    (iteP (decide (y.snd.fst = 2)) Z2 Z))
                  (iteP (decide (y.snd.fst = 2)) Z2 Z)) := by
      intro Z2 Z hid h2 h1
      refine ifQ (fun g1 => ?_) fun g1 => ?_
      · refine ifQ (fun g2 => bad (by decide) (by unfold nodeE; rw [if_neg (by simp [hid]), if_pos ⟨g1, g2⟩])) fun g2 => ?_
        refine ifP (fun h => absurd h g1) fun _ => ?_
        exact ifP (fun _ => h2 g2) fun h => absurd g2 h
      · refine ifP (fun _ => ?_) fun h => absurd g1 h
        refine ifQ (fun g3 => bad (by decide) (by unfold nodeE; rw [if_neg (by simp [hid]), if_neg (by simp [g1]), if_pos ⟨g1, g3⟩])) fun g3 => ?_
        exact ifP (fun h => by rw [g1] at h; cases h) fun h => h1 (by unfold nodeE; rw [if_neg (by simp [hid]), if_neg (by simp [g1]), if_neg (by simp [g3]), if_neg (by simp [h])])
    refine ixK (fun hn => ?_) fun i j hj hn => ?_
    · have hn : nodeOf d y.2.2 = none := hn
      rw [isId_call]
      refine ifNB (fun hid => bad (by decide) (by unfold nodeE; rw [if_pos hid])) fun hid => ?_
      refine tail hid (fun h2 => bad (by decide) ?_) fun h0 => hok h0
      unfold nodeE; rw [if_neg (by simp [hid]), if_neg (by simp [h2]), if_neg (by simp [h2]), if_pos ⟨h2, by rw [hn]; rfl⟩]
    · have hn : nodeOf d y.2.2 = some d.2.1[j] := hn
      rw [isId_call]
      refine ifNB (fun hid => bad (by decide) (by unfold nodeE; rw [if_pos hid])) fun hid => ?_
      refine tail hid (fun h2 => hok ?_) fun h0 => hok h0
      unfold nodeE; rw [if_neg (by simp [hid]), if_neg (by simp [h2]), if_neg (by simp [h2]), if_neg (by simp [hn])]
  · have hn : d.2.1.length ≤ 140737488355328 := hs.n
    refine loopK_ix d.2.1.length (fun k s => s = ((d.2.1.take k).any (fun n => decide (8 < (up d n.1).1.length)), (k : Int), ()) ∧ ∀ n ∈ d.2.1.take k, (up d n.1).2 = true) ⟨rfl, by simp⟩ ?_
    rintro X k s hk ⟨rfl, hall⟩ hX
    dsimp only
    refine ifP (fun hlt => ?_) fun hge => ?_
    · rw [List.length_map] at hlt
      have hlt : k < d.2.1.length := by omega
      rw [rowsK_at (r := yNode) hlt]
      refine callK_some (s := [(false, .li .str), (false, .bool)]) (g_tclimb_ok hs d.2.1[k].1) ?_
      have ht : d.2.1.take (k + 1) = d.2.1.take k ++ [d.2.1[k]] := List.take_succ_eq_append_getElem hlt
      have hw : IntKind.i64.wrap ((k : Int) + 1) = ((k + 1 : Nat) : Int) := wrap_id _ (by omega) (by omega)
      refine ifNB (fun hu => is ?_) fun hu => ?_
      · unfold nodesE
        rw [if_pos h0, if_pos (show noUp d = true from List.any_eq_true.2 ⟨_, List.getElem_mem hlt, by rw [hu]; rfl⟩)]
      · have hall' : ∀ n ∈ d.2.1.take (k + 1), (up d n.1).2 = true := fun n hm => by
          rw [ht] at hm
          rcases List.mem_append.1 hm with h | h
          · exact hall n h
          · simp at h; subst h; exact hu
        refine ifB (fun hd => ?_) fun hd => ?_
        · refine hX _ hlt ⟨?_, hall'⟩
          rw [hw, ht, List.any_append, hd]; rfl
        · refine hX _ hlt ⟨?_, hall'⟩
          rw [hw, ht, List.any_append, hd]
          simp only [List.length_map, List.any_cons, List.any_nil, Bool.or_false, Bool.false_or, Prod.mk.injEq, and_true]
          congr 1
          exact propext ⟨fun h => by omega, fun h => by omega⟩
    · rw [List.length_map] at hge
      have : k = d.2.1.length := by omega
      subst this
      rw [List.take_length] at hall ⊢
      have hnu : noUp d = false := by
        rw [Bool.eq_false_iff]; intro h
        obtain ⟨n, hm, h⟩ := List.any_eq_true.1 h
        rw [hall n hm] at h; cases h
      refine ifB (fun h => is ?_) fun h => is ?_
      · unfold nodesE; rw [if_pos h0, hnu, if_neg (by simp), if_pos (show deepD d = true from h)]
      · unfold nodesE; rw [if_pos h0, hnu, if_neg (by simp), if_neg (by rw [show deepD d = false from h]; simp)]
end Go.Pv
set_option linter.unusedSimpArgs false
set_option linter.unusedVariables false
set_option maxRecDepth 100000
namespace Go.Pv
open Go Go.Proofs

/-! ### Equality as a bool -/
noncomputable def eqB {α : Type} (a b : α) : Bool := @decide (a = b) (Classical.propDecidable _)
theorem eqB_iff {α : Type} {a b : α} : eqB a b = true ↔ a = b := by unfold eqB; exact @decide_eq_true_iff _ (Classical.propDecidable _)
@[simp] theorem eqB_self {α : Type} (a : α) : eqB a a = true := eqB_iff.2 rfl
theorem eqB_no {α : Type} {a b : α} (h : ¬ a = b) : eqB a b = false := by
  cases hc : eqB a b with
  | false => rfl
  | true => exact absurd (eqB_iff.1 hc) h
theorem eqB_dec {α : Type} {a b : α} (i : Decidable (a = b)) : @decide (a = b) i = eqB a b := by
  by_cases h : a = b
  · rw [eqB_iff.2 h]; simp [h]
  · rw [eqB_no h]; simp [h]
theorem iteP_and (c d : Bool) (r : T) : iteP c (T.v (Value.bool d) = r) (T.v (Value.bool false) = r) = (T.v (Value.bool (c && d)) = r) := by cases c <;> simp [iteP]
theorem iteP_nand (c d : Bool) (r : T) : iteP (!c) (T.v (Value.bool false) = r) (T.v (Value.bool d) = r) = (T.v (Value.bool (c && d)) = r) := by cases c <;> simp [iteP]
theorem enc_b (x : Bool) : Sh.enc r_b x = T.v (Value.bool x) := rfl
theorem r_b_call (y : Bool) (K : Bool → Prop) : callK [(false, Sy.bool)] (some (Sh.enc r_b y)) K = K y := callK_enc (s := r_b) rfl y K
/-- A loop that compares two lists, place by place. -/
theorem same_loop {r : Sy} {l m : List r.den} (hlen : l.length = m.length) (hl : l.length ≤ 2 ^ 47) (test : r.den → r.den → Bool) (ht : ∀ x y, test x y = true ↔ x = y) {R : T → Prop} (hR : R (T.v (Value.bool (eqB l m)))) :
    loopK (Int × PUnit) (fun (X : Int × PUnit → Prop) (s : Int × PUnit) => iteP (decide (s.fst < (↑(List.map r.enc l).length : Int))) (rowsK r (List.map r.enc l) s.fst fun y => rowsK r (List.map r.enc m) s.fst fun z => iteP (!(test y z)) (R (T.v (Value.bool false))) (X (IntKind.i64.wrap (s.fst + 1), ()))) (R (T.v (Value.bool true)))) (0, ()) := by
  refine loopK_ix l.length (fun k s => s = ((k : Int), ()) ∧ (l = m ↔ l.drop k = m.drop k)) ⟨rfl, by simp⟩ ?_
  rintro X k s hk ⟨rfl, he⟩ hX
  dsimp only
  by_cases hlt : k < l.length
  · have hlt2 : k < m.length := by omega
    refine iteP_yes (by simp [hlt]) ?_
    rw [rowsK_at hlt, rowsK_at hlt2]
    rw [List.drop_eq_getElem_cons hlt, List.drop_eq_getElem_cons hlt2, List.cons.injEq] at he
    by_cases h1 : l[k] = m[k]
    · rw [(ht _ _).2 h1, Bool.not_true, iteP_f]
      refine hX _ hlt ⟨by rw [show IntKind.i64.wrap ((k : Int) + 1) = ((k + 1 : Nat) : Int) from wrap_id _ (by omega) (by omega)], ?_⟩
      rw [he]; exact ⟨fun h => h.2, fun h => ⟨h1, h⟩⟩
    · have : test l[k] m[k] = false := by
        cases hc : test l[k] m[k] with
        | false => rfl
        | true => exact absurd ((ht _ _).1 hc) h1
      rw [this, Bool.not_false, iteP_t]
      rwa [eqB_no fun h => h1 (he.1 h).1] at hR
  · have : k = l.length := by omega
    subst this
    refine iteP_no (by simp) ?_
    rwa [eqB_iff.2 (he.2 (by rw [List.drop_length, hlen, List.drop_length]))] at hR
/-- The lengths first, then the elements. -/
theorem same_all {r : Sy} {l m : List r.den} (hl : l.length ≤ 2 ^ 47) (test : r.den → r.den → Bool) (ht : ∀ x y, test x y = true ↔ x = y) {R : T → Prop} (hR : R (T.v (Value.bool (eqB l m)))) :
    iteP (!decide ((↑(List.map r.enc l).length : Int) = (↑(List.map r.enc m).length : Int))) (R (T.v (Value.bool false))) (loopK (Int × PUnit) (fun (X : Int × PUnit → Prop) (s : Int × PUnit) => iteP (decide (s.fst < (↑(List.map r.enc l).length : Int))) (rowsK r (List.map r.enc l) s.fst fun y => rowsK r (List.map r.enc m) s.fst fun z => iteP (!(test y z)) (R (T.v (Value.bool false))) (X (IntKind.i64.wrap (s.fst + 1), ()))) (R (T.v (Value.bool true)))) (0, ())) := by
  by_cases hlen : l.length = m.length
  · rw [show (!decide ((↑(List.map r.enc l).length : Int) = (↑(List.map r.enc m).length : Int))) = false by simp [hlen], iteP_f]
    exact same_loop hlen hl test ht hR
  · rw [show (!decide ((↑(List.map r.enc l).length : Int) = (↑(List.map r.enc m).length : Int))) = true by simp; omega, iteP_t]
    rwa [eqB_no fun h => hlen (by rw [h])] at hR

def packOf (d : TDesign) (id : ByteArray) : Option TPackage := d.2.2.2.2.1.find? fun s => decide (s.1 = id)
def noPack : TPackage := (⟨#[]⟩, ⟨#[]⟩, [], 0, [])
def sp_pack17 (x : TDesign × ByteArray) : Option T := some (Sh.enc [(true, yPackage), (false, .bool)] (found noPack (packOf x.1 x.2)))
def okPack (p : TPackage) : Bool := okLen 16 p.2.2.1.length && okLen 16 p.2.2.2.2.length
def okK (d : TDesign) : Bool := d.2.2.2.2.1.all okPack
def onlyK (d : TDesign) (t : T) : Option T := match okK d with
  | true => some t
  | false => none
theorem onlyK_of {d : TDesign} {t r : T} (h : onlyK d t = some r) : okK d = true ∧ r = t := by
  unfold onlyK at h; split at h
  · cases h; exact ⟨by assumption, rfl⟩
  · cases h
theorem onlyK_ok {d : TDesign} (t : T) (h : okK d = true) : onlyK d t = some t := by unfold onlyK; rw [h]
def sp_pack (x : TDesign × ByteArray) : Option T := onlyK x.1 (Sh.enc [(true, yPackage), (false, .bool)] (found noPack (packOf x.1 x.2)))
noncomputable def sp_same13 (x : List TPoint × List TPoint) : Option T := some (Sh.enc r_b (eqB x.1 x.2))
noncomputable def sp_sameSh (x : TShape × TShape) : Option T := some (Sh.enc r_b (eqB x.1 x.2))
noncomputable def sp_samePart (x : TPart × TPart) : Option T := some (Sh.enc r_b (eqB x.1 x.2))
noncomputable def sp_samePart17 := sp_samePart
noncomputable def sp_sameS (x : List ByteArray × List ByteArray) : Option T := some (Sh.enc r_b (eqB x.1 x.2))
noncomputable def sp_samePack (x : TPackage × TPackage) : Option T := some (Sh.enc r_b (eqB x.1 x.2))
end Go.Pv
set_option linter.unusedSimpArgs false
set_option linter.unusedVariables false
set_option maxRecDepth 100000
namespace Go.Pv
open Go Go.Proofs
def seamE (d : TDesign) (s : TSeam) : Int := if isId s.1 = false ∨ isId s.2.1 = false ∨ isId s.2.2.1 = false then 6 else if s.2.1 = s.2.2.1 then 2 else if ¬ s.2.2.2.1 = 1 ∧ ¬ s.2.2.2.1 = 2 then 10 else if s.2.2.2.2.1 < 1 ∨ 32768 < s.2.2.2.2.1 ∨ s.2.2.2.2.2 < 1 ∨ 3 < s.2.2.2.2.2 then 9 else if (partOf d s.2.1).isNone = true ∨ (partOf d s.2.2.1).isNone = true then 8 else 0
set_option maxRecDepth 100000
def A_cSeams (a0 : TDesign) (m1 : List (ByteArray × Int)) (m2 : List (ByteArray × Int)) (m3 : List (ByteArray × Int)) (m4 : List (ByteArray × Int)) : List T := [tRef a0 m1 m2 m3 m4]
noncomputable def E_cSeams : Env := Env.of [(38, .pure g_isId)]
def H_cSeams : FuncId → Hint := fun f => match f == 14 with | true => ⟨fun r => match r == 2 with | true => .inv [.val 17 false (.int .i64)] | false => .none, fun _ _ => none, fun _ => none⟩ | false => noHint
theorem Eok_cSeams : EnvOk Tryz.prog E_cSeams := EnvOk.cons (x := .pure g_isId) fn_isId (EnvOk.nil _)
def F_cSeams (a0 : TDesign) (m1 : List (ByteArray × Int)) (m2 : List (ByteArray × Int)) (m3 : List (ByteArray × Int)) (m4 : List (ByteArray × Int)) (R : T → Prop) : Prop :=
 loopK (Int × PUnit)
 (fun (X0 : Int × PUnit → Prop) (s1 : Int × PUnit) =>
 iteP (decide (s1.fst < (↑(List.map ySeam.enc a0.snd.snd.snd.fst).length : Int)))
 (rowsK ySeam (List.map ySeam.enc a0.snd.snd.snd.fst) s1.fst fun (y2 : TSeam) =>
 findK TypeDesc.string (Value.string y2.snd.fst) (mpD (encM m2)) false
 (Sy.int IntKind.i64)
 (findK TypeDesc.string (Value.string y2.snd.snd.fst) (mpD (encM m2)) false
 (Sy.int IntKind.i64)
 (callK [(false, Sy.bool)] (g_isId [T.v (Value.string y2.fst)])
 fun (y18 : Bool) =>
 iteP (!y18) (R (T.v (Value.int IntKind.i64 6)))
 (callK [(false, Sy.bool)] (g_isId [T.v (Value.string y2.snd.fst)])
 fun (y19 : Bool) =>
 iteP (!y19) (R (T.v (Value.int IntKind.i64 6)))
 (callK [(false, Sy.bool)] (g_isId [T.v (Value.string y2.snd.snd.fst)])
 fun (y20 : Bool) =>
 iteP (!y20) (R (T.v (Value.int IntKind.i64 6)))
 (iteP (decide (y2.snd.fst = y2.snd.snd.fst))
 (R (T.v (Value.int IntKind.i64 2)))
 (iteP (!decide (y2.snd.snd.snd.fst = 1))
 (iteP (!decide (y2.snd.snd.snd.fst = 2))
 (R (T.v (Value.int IntKind.i64 10)))
 (iteP (decide (y2.snd.snd.snd.snd.fst < 1))
 (R (T.v (Value.int IntKind.i64 9)))
 (iteP (decide (32768 < y2.snd.snd.snd.snd.fst))
 (R (T.v (Value.int IntKind.i64 9)))
 (iteP (decide (y2.snd.snd.snd.snd.snd < 1))
 (R (T.v (Value.int IntKind.i64 9)))
 (iteP (decide (3 < y2.snd.snd.snd.snd.snd))
 (R (T.v (Value.int IntKind.i64 9)))
 (R (T.v (Value.int IntKind.i64 8))))))))
 (iteP (decide (y2.snd.snd.snd.snd.fst < 1))
 (R (T.v (Value.int IntKind.i64 9)))
 (iteP (decide (32768 < y2.snd.snd.snd.snd.fst))
 (R (T.v (Value.int IntKind.i64 9)))
 (iteP (decide (y2.snd.snd.snd.snd.snd < 1))
 (R (T.v (Value.int IntKind.i64 9)))
 (iteP (decide (3 < y2.snd.snd.snd.snd.snd))
 (R (T.v (Value.int IntKind.i64 9)))
 (R (T.v (Value.int IntKind.i64 8))))))))))))
 fun (i13 : Nat) (y14 : Int) =>
 callK [(false, Sy.bool)] (g_isId [T.v (Value.string y2.fst)]) fun (y15 : Bool) =>
 iteP (!y15) (R (T.v (Value.int IntKind.i64 6)))
 (callK [(false, Sy.bool)] (g_isId [T.v (Value.string y2.snd.fst)])
 fun (y16 : Bool) =>
 iteP (!y16) (R (T.v (Value.int IntKind.i64 6)))
 (callK [(false, Sy.bool)] (g_isId [T.v (Value.string y2.snd.snd.fst)])
 fun (y17 : Bool) =>
 iteP (!y17) (R (T.v (Value.int IntKind.i64 6)))
 (iteP (decide (y2.snd.fst = y2.snd.snd.fst))
 (R (T.v (Value.int IntKind.i64 2)))
 (iteP (!decide (y2.snd.snd.snd.fst = 1))
 (iteP (!decide (y2.snd.snd.snd.fst = 2))
 (R (T.v (Value.int IntKind.i64 10)))
 (iteP (decide (y2.snd.snd.snd.snd.fst < 1))
 (R (T.v (Value.int IntKind.i64 9)))
 (iteP (decide (32768 < y2.snd.snd.snd.snd.fst))
 (R (T.v (Value.int IntKind.i64 9)))
 (iteP (decide (y2.snd.snd.snd.snd.snd < 1))
 (R (T.v (Value.int IntKind.i64 9)))
 (iteP (decide (3 < y2.snd.snd.snd.snd.snd))
 (R (T.v (Value.int IntKind.i64 9)))
 (R (T.v (Value.int IntKind.i64 8))))))))
 (iteP (decide (y2.snd.snd.snd.snd.fst < 1))
 (R (T.v (Value.int IntKind.i64 9)))
 (iteP (decide (32768 < y2.snd.snd.snd.snd.fst))
 (R (T.v (Value.int IntKind.i64 9)))
 (iteP (decide (y2.snd.snd.snd.snd.snd < 1))
 (R (T.v (Value.int IntKind.i64 9)))
 (iteP (decide (3 < y2.snd.snd.snd.snd.snd))
 (R (T.v (Value.int IntKind.i64 9)))
 (R (T.v (Value.int IntKind.i64 8))))))))))))
 fun (i3 : Nat) (y4 : Int) =>
 findK TypeDesc.string (Value.string y2.snd.snd.fst) (mpD (encM m2)) false
 (Sy.int IntKind.i64)
 (callK [(false, Sy.bool)] (g_isId [T.v (Value.string y2.fst)])
 fun (y10 : Bool) =>
 iteP (!y10) (R (T.v (Value.int IntKind.i64 6)))
 (callK [(false, Sy.bool)] (g_isId [T.v (Value.string y2.snd.fst)])
 fun (y11 : Bool) =>
 iteP (!y11) (R (T.v (Value.int IntKind.i64 6)))
 (callK [(false, Sy.bool)] (g_isId [T.v (Value.string y2.snd.snd.fst)])
 fun (y12 : Bool) =>
 iteP (!y12) (R (T.v (Value.int IntKind.i64 6)))
 (iteP (decide (y2.snd.fst = y2.snd.snd.fst))
 (R (T.v (Value.int IntKind.i64 2)))
 (iteP (!decide (y2.snd.snd.snd.fst = 1))
 (iteP (!decide (y2.snd.snd.snd.fst = 2))
 (R (T.v (Value.int IntKind.i64 10)))
 (iteP (decide (y2.snd.snd.snd.snd.fst < 1))
 (R (T.v (Value.int IntKind.i64 9)))
 (iteP (decide (32768 < y2.snd.snd.snd.snd.fst))
 (R (T.v (Value.int IntKind.i64 9)))
 (iteP (decide (y2.snd.snd.snd.snd.snd < 1))
 (R (T.v (Value.int IntKind.i64 9)))
 (iteP (decide (3 < y2.snd.snd.snd.snd.snd))
 (R (T.v (Value.int IntKind.i64 9)))
 (R (T.v (Value.int IntKind.i64 8))))))))
 (iteP (decide (y2.snd.snd.snd.snd.fst < 1))
 (R (T.v (Value.int IntKind.i64 9)))
 (iteP (decide (32768 < y2.snd.snd.snd.snd.fst))
 (R (T.v (Value.int IntKind.i64 9)))
 (iteP (decide (y2.snd.snd.snd.snd.snd < 1))
 (R (T.v (Value.int IntKind.i64 9)))
 (iteP (decide (3 < y2.snd.snd.snd.snd.snd))
 (R (T.v (Value.int IntKind.i64 9)))
 (R (T.v (Value.int IntKind.i64 8))))))))))))
 fun (i5 : Nat) (y6 : Int) =>
 callK [(false, Sy.bool)] (g_isId [T.v (Value.string y2.fst)]) fun (y7 : Bool) =>
 iteP (!y7) (R (T.v (Value.int IntKind.i64 6)))
 (callK [(false, Sy.bool)] (g_isId [T.v (Value.string y2.snd.fst)])
 fun (y8 : Bool) =>
 iteP (!y8) (R (T.v (Value.int IntKind.i64 6)))
 (callK [(false, Sy.bool)] (g_isId [T.v (Value.string y2.snd.snd.fst)])
 fun (y9 : Bool) =>
 iteP (!y9) (R (T.v (Value.int IntKind.i64 6)))
 (iteP (decide (y2.snd.fst = y2.snd.snd.fst))
 (R (T.v (Value.int IntKind.i64 2)))
 (iteP (!decide (y2.snd.snd.snd.fst = 1))
 (iteP (!decide (y2.snd.snd.snd.fst = 2))
 (R (T.v (Value.int IntKind.i64 10)))
 (iteP (decide (y2.snd.snd.snd.snd.fst < 1))
 (R (T.v (Value.int IntKind.i64 9)))
 (iteP (decide (32768 < y2.snd.snd.snd.snd.fst))
 (R (T.v (Value.int IntKind.i64 9)))
 (iteP (decide (y2.snd.snd.snd.snd.snd < 1))
 (R (T.v (Value.int IntKind.i64 9)))
 (iteP (decide (3 < y2.snd.snd.snd.snd.snd))
 (R (T.v (Value.int IntKind.i64 9)))
 (X0 (IntKind.i64.wrap (s1.fst + 1), ())))))))
 (iteP (decide (y2.snd.snd.snd.snd.fst < 1))
 (R (T.v (Value.int IntKind.i64 9)))
 (iteP (decide (32768 < y2.snd.snd.snd.snd.fst))
 (R (T.v (Value.int IntKind.i64 9)))
 (iteP (decide (y2.snd.snd.snd.snd.snd < 1))
 (R (T.v (Value.int IntKind.i64 9)))
 (iteP (decide (3 < y2.snd.snd.snd.snd.snd))
 (R (T.v (Value.int IntKind.i64 9)))
 (X0 (IntKind.i64.wrap (s1.fst + 1), ())))))))))))
 (R (T.v (Value.int IntKind.i64 0))))
 (0, ())
theorem F_cSeams_eq (a0 : TDesign) (m1 : List (ByteArray × Int)) (m2 : List (ByteArray × Int)) (m3 : List (ByteArray × Int)) (m4 : List (ByteArray × Int)) (R : T → Prop) : sxTop stdC2 Tryz.prog E_cSeams H_cSeams 8 14 (A_cSeams a0 m1 m2 m3 m4) R = F_cSeams a0 m1 m2 m3 m4 R := by kernel_rfl
abbrev r_cSeams : Sh := [(false, Sy.int IntKind.i64)]
theorem r_cSeams_call (y : Sh.den r_cSeams) (K : Sh.den r_cSeams → Prop) : callK r_cSeams (some (Sh.enc r_cSeams y)) K = K y := callK_enc rfl y K

theorem A_cSeams_inj (x y : TDesign × MP × MP × MP × MP) (h : A_cSeams x.1 x.2.1 x.2.2.1 x.2.2.2.1 x.2.2.2.2 = A_cSeams y.1 y.2.1 y.2.2.1 y.2.2.2.1 y.2.2.2.2) : x = y := tRef_inj (List.cons.inj h).1
def sp_cSeams (x : TDesign × MP × MP × MP × MP) : Option T := onlyT x (T.v (Value.int .i64 (firstE (seamE x.1) x.1.2.2.2.1)))
noncomputable def g_cSeams : List T → Option (T) := gA (fun (x : TDesign × (List (ByteArray × Int)) × (List (ByteArray × Int)) × (List (ByteArray × Int)) × List (ByteArray × Int)) => A_cSeams x.1 x.2.1 x.2.2.1 x.2.2.2.1 x.2.2.2.2) sp_cSeams
theorem g_cSeams_at (a0 : TDesign) (m1 : List (ByteArray × Int)) (m2 : List (ByteArray × Int)) (m3 : List (ByteArray × Int)) (m4 : List (ByteArray × Int)) : g_cSeams (A_cSeams a0 m1 m2 m3 m4) = sp_cSeams (a0, m1, m2, m3, m4) := gA_at (A := (fun (x : TDesign × (List (ByteArray × Int)) × (List (ByteArray × Int)) × (List (ByteArray × Int)) × List (ByteArray × Int)) => A_cSeams x.1 x.2.1 x.2.2.1 x.2.2.2.1 x.2.2.2.2)) A_cSeams_inj (a0, m1, m2, m3, m4)
theorem of_cSeams (h : ∀ (a0 : TDesign) (m1 : List (ByteArray × Int)) (m2 : List (ByteArray × Int)) (m3 : List (ByteArray × Int)) (m4 : List (ByteArray × Int)) (r : T), sp_cSeams (a0, m1, m2, m3, m4) = some r → (∀ t ∈ A_cSeams a0 m1 m2 m3 m4, Bd t) → F_cSeams a0 m1 m2 m3 m4 (fun y => y = r)) : PureFn Tryz.prog 14 g_cSeams :=
  pureFn_A (E := E_cSeams) (Hs := H_cSeams) Eok_cSeams mixed' plain' (noHeap_of rfl) 8 ⟨_, _, Tryz.func14, rfl⟩ fun x r h1 h2 => by
    rw [F_cSeams_eq]
    exact h x.1 x.2.1 x.2.2.1 x.2.2.2.1 x.2.2.2.2 r h1 h2

theorem fn_cSeams : PureFn Tryz.prog 14 g_cSeams := of_cSeams fun d m1 m2 m3 m4 r h hb => by
  obtain ⟨hx, hs, rfl⟩ := onlyT_of h
  simp only [Prod.mk.injEq, true_and] at hx
  obtain ⟨rfl, rfl, rfl, rfl⟩ := hx
  replace hs : SmallD d := hs
  clear h
  unfold F_cSeams
  refine first_loop (r := ySeam) (seamE d) hs.s (fun X s y hy hok hbad => ?_) fun h0 => ?_
  · have bad : ∀ {n : Int}, n ≠ 0 → seamE d y = n → T.v (Value.int IntKind.i64 n) = T.v (Value.int IntKind.i64 (firstE (seamE d) d.2.2.2.1)) := fun hn h => by
      rw [hbad (by rw [h]; exact hn), h]
    clear hbad hb
    repeat' first
      | refine ixK (fun hn => ?_) (fun i j hj hn => ?_)
      | rw [isId_call]
      | refine ifQ (fun h => ?_) (fun h => ?_)
      | refine ifP (fun h => ?_) (fun h => ?_)
      | refine ifNB (fun h => ?_) (fun h => ?_)
    all_goals first
      | (exfalso; omega)
      | (refine bad (by decide) ?_; clear bad hok; unfold seamE; simp [*, partOf, packOf]; done)
      | (refine hok ?_; clear bad hok; unfold seamE; simp [*, partOf, packOf]; done)
  · show _ = T.v (Value.int IntKind.i64 (firstE (seamE d) d.2.2.2.1))
    rw [h0]
set_option maxRecDepth 100000
def A_isBlk (a0 : TDesign) (m1 : List (ByteArray × Int)) (m2 : List (ByteArray × Int)) (m3 : List (ByteArray × Int)) (m4 : List (ByteArray × Int)) (a5 : ByteArray) : List T := [tRef a0 m1 m2 m3 m4, T.v (Value.string a5)]
noncomputable def E_isBlk : Env := Env.of []
def H_isBlk : FuncId → Hint := fun _ => noHint
theorem Eok_isBlk : EnvOk Tryz.prog E_isBlk := EnvOk.nil _
def F_isBlk (a0 : TDesign) (m1 : List (ByteArray × Int)) (m2 : List (ByteArray × Int)) (m3 : List (ByteArray × Int)) (m4 : List (ByteArray × Int)) (a5 : ByteArray) (R : T → Prop) : Prop :=
 findK TypeDesc.string (Value.string a5) (mpD (encM m1)) false (Sy.int IntKind.i64)
 (R (T.v (Value.bool false))) fun (i0 : Nat) (y1 : Int) =>
 rowsK yNode (List.map yNode.enc a0.snd.fst) y1 fun (y2 : TNode) =>
 R (T.v (Value.bool (decide (y2.snd.fst = 1))))
theorem F_isBlk_eq (a0 : TDesign) (m1 : List (ByteArray × Int)) (m2 : List (ByteArray × Int)) (m3 : List (ByteArray × Int)) (m4 : List (ByteArray × Int)) (a5 : ByteArray) (R : T → Prop) : sxTop stdC2 Tryz.prog E_isBlk H_isBlk 8 42 (A_isBlk a0 m1 m2 m3 m4 a5) R = F_isBlk a0 m1 m2 m3 m4 a5 R := by kernel_rfl
abbrev r_isBlk : Sh := [(false, Sy.bool)]
theorem r_isBlk_call (y : Sh.den r_isBlk) (K : Sh.den r_isBlk → Prop) : callK r_isBlk (some (Sh.enc r_isBlk y)) K = K y := callK_enc rfl y K

def isBlk (d : TDesign) (id : ByteArray) : Bool := match nodeOf d id with
  | some n => decide (n.2.1 = 1)
  | none => false
theorem A_isBlk_inj (x y : TDesign × MP × MP × MP × MP × ByteArray) (h : A_isBlk x.1 x.2.1 x.2.2.1 x.2.2.2.1 x.2.2.2.2.1 x.2.2.2.2.2 = A_isBlk y.1 y.2.1 y.2.2.1 y.2.2.2.1 y.2.2.2.2.1 y.2.2.2.2.2) : x = y := A_tclimb_inj x y h
def sp_isBlk (x : TDesign × MP × MP × MP × MP × ByteArray) : Option T := onlyT (x.1, x.2.1, x.2.2.1, x.2.2.2.1, x.2.2.2.2.1) (T.v (Value.bool (isBlk x.1 x.2.2.2.2.2)))
noncomputable def g_isBlk : List T → Option (T) := gA (fun (x : TDesign × (List (ByteArray × Int)) × (List (ByteArray × Int)) × (List (ByteArray × Int)) × (List (ByteArray × Int)) × ByteArray) => A_isBlk x.1 x.2.1 x.2.2.1 x.2.2.2.1 x.2.2.2.2.1 x.2.2.2.2.2) sp_isBlk
theorem g_isBlk_at (a0 : TDesign) (m1 : List (ByteArray × Int)) (m2 : List (ByteArray × Int)) (m3 : List (ByteArray × Int)) (m4 : List (ByteArray × Int)) (a5 : ByteArray) : g_isBlk (A_isBlk a0 m1 m2 m3 m4 a5) = sp_isBlk (a0, m1, m2, m3, m4, a5) := gA_at (A := (fun (x : TDesign × (List (ByteArray × Int)) × (List (ByteArray × Int)) × (List (ByteArray × Int)) × (List (ByteArray × Int)) × ByteArray) => A_isBlk x.1 x.2.1 x.2.2.1 x.2.2.2.1 x.2.2.2.2.1 x.2.2.2.2.2)) A_isBlk_inj (a0, m1, m2, m3, m4, a5)
theorem of_isBlk (h : ∀ (a0 : TDesign) (m1 : List (ByteArray × Int)) (m2 : List (ByteArray × Int)) (m3 : List (ByteArray × Int)) (m4 : List (ByteArray × Int)) (a5 : ByteArray) (r : T), sp_isBlk (a0, m1, m2, m3, m4, a5) = some r → (∀ t ∈ A_isBlk a0 m1 m2 m3 m4 a5, Bd t) → F_isBlk a0 m1 m2 m3 m4 a5 (fun y => y = r)) : PureFn Tryz.prog 42 g_isBlk :=
  pureFn_A (E := E_isBlk) (Hs := H_isBlk) Eok_isBlk mixed' plain' (noHeap_of rfl) 8 ⟨_, _, Tryz.func42, rfl⟩ fun x r h1 h2 => by
    rw [F_isBlk_eq]
    exact h x.1 x.2.1 x.2.2.1 x.2.2.2.1 x.2.2.2.2.1 x.2.2.2.2.2 r h1 h2

theorem fn_isBlk : PureFn Tryz.prog 42 g_isBlk := of_isBlk fun d m1 m2 m3 m4 id0 r h hb => by
  obtain ⟨hx, hs, rfl⟩ := onlyT_of h
  simp only [Prod.mk.injEq, true_and] at hx
  obtain ⟨rfl, rfl, rfl, rfl⟩ := hx
  replace hs : SmallD d := hs
  clear h
  unfold F_isBlk
  refine ixK (fun hn => ?_) fun i j hj hn => ?_
  · have hn : nodeOf d id0 = none := hn
    show _ = T.v (Value.bool (isBlk d id0))
    unfold isBlk; rw [hn]
  · have hn : nodeOf d id0 = some d.2.1[j] := hn
    rw [rowsK_at (r := yNode) hj]
    show _ = T.v (Value.bool (isBlk d id0))
    unfold isBlk; rw [hn]
theorem g_isBlk_ok {d : TDesign} (hs : SmallD d) (id : ByteArray) : g_isBlk (A_isBlk d (ixs (ids d.2.1)) (ixs (ids d.2.2.1)) (ixs (ids d.2.2.2.1)) (ixs (ids d.2.2.2.2.1)) id) = some (Sh.enc [(false, .bool)] (isBlk d id)) := by
  rw [g_isBlk_at]; exact onlyT_ok hs _
def needE (d : TDesign) (x : TNeed) : Int := if x.1 < 1 ∨ 3 < x.1 then 10 else if x.2.2 = x.2.1 then 2 else if isBlk d x.2.1 = false then 8 else if (x.1 = 1 ∧ ¬ x.2.2 = { data := #[] } ∧ isBlk d x.2.2 = false) ∨ (x.1 = 2 ∧ isBlk d x.2.2 = false) ∨ (x.1 = 3 ∧ (packOf d x.2.2).isNone = true) then 8 else 0
set_option maxRecDepth 100000
def A_cNeeds (a0 : TDesign) (m1 : List (ByteArray × Int)) (m2 : List (ByteArray × Int)) (m3 : List (ByteArray × Int)) (m4 : List (ByteArray × Int)) : List T := [tRef a0 m1 m2 m3 m4]
noncomputable def E_cNeeds : Env := Env.of [(42, .pure g_isBlk)]
def H_cNeeds : FuncId → Hint := fun f => match f == 16 with | true => ⟨fun r => match r == 2 with | true => .inv [.val 15 false (.int .i64)] | false => .none, fun _ _ => none, fun _ => none⟩ | false => noHint
theorem Eok_cNeeds : EnvOk Tryz.prog E_cNeeds := EnvOk.cons (x := .pure g_isBlk) fn_isBlk (EnvOk.nil _)
def F_cNeeds (a0 : TDesign) (m1 : List (ByteArray × Int)) (m2 : List (ByteArray × Int)) (m3 : List (ByteArray × Int)) (m4 : List (ByteArray × Int)) (R : T → Prop) : Prop :=
 loopK (Int × PUnit)
 (fun (X0 : Int × PUnit → Prop) (s1 : Int × PUnit) =>
 iteP (decide (s1.fst < (↑(List.map yNeed.enc a0.snd.snd.snd.snd.snd).length : Int)))
 (rowsK yNeed (List.map yNeed.enc a0.snd.snd.snd.snd.snd) s1.fst fun (y2 : TNeed) =>
 findK TypeDesc.string (Value.string y2.snd.snd) (mpD (encM m4)) false
 (Sy.int IntKind.i64)
 (iteP (decide (y2.fst < 1)) (R (T.v (Value.int IntKind.i64 10)))
 (iteP (decide (3 < y2.fst)) (R (T.v (Value.int IntKind.i64 10)))
 (iteP (decide (y2.snd.snd = y2.snd.fst)) (R (T.v (Value.int IntKind.i64 2)))
 (callK [(false, Sy.bool)]
 (g_isBlk
 [T.ref
 [T.ref
 [T.v (Value.string a0.fst), T.sl false (List.map yNode.enc a0.snd.fst),
 T.sl false (List.map yPart.enc a0.snd.snd.fst),
 T.sl false (List.map ySeam.enc a0.snd.snd.snd.fst),
 T.sl false (List.map yPackage.enc a0.snd.snd.snd.snd.fst),
 T.sl false (List.map yNeed.enc a0.snd.snd.snd.snd.snd)],
 T.mp (encM m1), T.mp (encM m2), T.mp (encM m3),
 T.mp (encM m4)],
 T.v (Value.string y2.snd.fst)])
 fun (y10 : Bool) =>
 iteP (!y10) (R (T.v (Value.int IntKind.i64 8)))
 (iteP (decide (y2.fst = 1))
 (iteP (!decide (y2.snd.snd = { data := #[] }))
 (callK [(false, Sy.bool)]
 (g_isBlk
 [T.ref
 [T.ref
 [T.v (Value.string a0.fst),
 T.sl false (List.map yNode.enc a0.snd.fst),
 T.sl false (List.map yPart.enc a0.snd.snd.fst),
 T.sl false (List.map ySeam.enc a0.snd.snd.snd.fst),
 T.sl false (List.map yPackage.enc a0.snd.snd.snd.snd.fst),
 T.sl false (List.map yNeed.enc a0.snd.snd.snd.snd.snd)],
 T.mp (encM m1), T.mp (encM m2), T.mp (encM m3),
 T.mp (encM m4)],
 T.v (Value.string y2.snd.snd)])
 fun (y11 : Bool) =>
 iteP (!y11) (R (T.v (Value.int IntKind.i64 8)))
 (iteP (decide (y2.fst = 2))
 (callK [(false, Sy.bool)]
 (g_isBlk
 [T.ref
 [T.ref
 [T.v (Value.string a0.fst),
 T.sl false (List.map yNode.enc a0.snd.fst),
 T.sl false (List.map yPart.enc a0.snd.snd.fst),
 T.sl false (List.map ySeam.enc a0.snd.snd.snd.fst),
 T.sl false (List.map yPackage.enc a0.snd.snd.snd.snd.fst),
 T.sl false (List.map yNeed.enc a0.snd.snd.snd.snd.snd)],
 T.mp (encM m1), T.mp (encM m2),
 T.mp (encM m3), T.mp (encM m4)],
 T.v (Value.string y2.snd.snd)])
 fun (y12 : Bool) =>
 iteP (!y12) (R (T.v (Value.int IntKind.i64 8)))
 (iteP (decide (y2.fst = 3)) (R (T.v (Value.int IntKind.i64 8)))
 (X0 (IntKind.i64.wrap (s1.fst + 1), ()))))
 (iteP (decide (y2.fst = 3)) (R (T.v (Value.int IntKind.i64 8)))
 (X0 (IntKind.i64.wrap (s1.fst + 1), ())))))
 (iteP (decide (y2.fst = 2))
 (callK [(false, Sy.bool)]
 (g_isBlk
 [T.ref
 [T.ref
 [T.v (Value.string a0.fst),
 T.sl false (List.map yNode.enc a0.snd.fst),
 T.sl false (List.map yPart.enc a0.snd.snd.fst),
 T.sl false (List.map ySeam.enc a0.snd.snd.snd.fst),
 T.sl false (List.map yPackage.enc a0.snd.snd.snd.snd.fst),
 T.sl false (List.map yNeed.enc a0.snd.snd.snd.snd.snd)],
 T.mp (encM m1), T.mp (encM m2), T.mp (encM m3),
 T.mp (encM m4)],
 T.v (Value.string y2.snd.snd)])
 fun (y13 : Bool) =>
 iteP (!y13) (R (T.v (Value.int IntKind.i64 8)))
 (iteP (decide (y2.fst = 3)) (R (T.v (Value.int IntKind.i64 8)))
 (X0 (IntKind.i64.wrap (s1.fst + 1), ()))))
 (iteP (decide (y2.fst = 3)) (R (T.v (Value.int IntKind.i64 8)))
 (X0 (IntKind.i64.wrap (s1.fst + 1), ())))))
 (iteP (decide (y2.fst = 2))
 (callK [(false, Sy.bool)]
 (g_isBlk
 [T.ref
 [T.ref
 [T.v (Value.string a0.fst),
 T.sl false (List.map yNode.enc a0.snd.fst),
 T.sl false (List.map yPart.enc a0.snd.snd.fst),
 T.sl false (List.map ySeam.enc a0.snd.snd.snd.fst),
 T.sl false (List.map yPackage.enc a0.snd.snd.snd.snd.fst),
 T.sl false (List.map yNeed.enc a0.snd.snd.snd.snd.snd)],
 T.mp (encM m1), T.mp (encM m2), T.mp (encM m3),
 T.mp (encM m4)],
 T.v (Value.string y2.snd.snd)])
 fun (y14 : Bool) =>
 iteP (!y14) (R (T.v (Value.int IntKind.i64 8)))
 (iteP (decide (y2.fst = 3)) (R (T.v (Value.int IntKind.i64 8)))
 (X0 (IntKind.i64.wrap (s1.fst + 1), ()))))
 (iteP (decide (y2.fst = 3)) (R (T.v (Value.int IntKind.i64 8)))
 (X0 (IntKind.i64.wrap (s1.fst + 1), ())))))))))
 fun (i3 : Nat) (y4 : Int) =>
 iteP (decide (y2.fst < 1)) (R (T.v (Value.int IntKind.i64 10)))
 (iteP (decide (3 < y2.fst)) (R (T.v (Value.int IntKind.i64 10)))
 (iteP (decide (y2.snd.snd = y2.snd.fst)) (R (T.v (Value.int IntKind.i64 2)))
 (callK [(false, Sy.bool)]
 (g_isBlk
 [T.ref
 [T.ref
 [T.v (Value.string a0.fst), T.sl false (List.map yNode.enc a0.snd.fst),
 T.sl false (List.map yPart.enc a0.snd.snd.fst),
 T.sl false (List.map ySeam.enc a0.snd.snd.snd.fst),
 T.sl false (List.map yPackage.enc a0.snd.snd.snd.snd.fst),
 T.sl false (List.map yNeed.enc a0.snd.snd.snd.snd.snd)],
 T.mp (encM m1), T.mp (encM m2), T.mp (encM m3),
 T.mp (encM m4)],
 T.v (Value.string y2.snd.fst)])
 fun (y5 : Bool) =>
 iteP (!y5) (R (T.v (Value.int IntKind.i64 8)))
 (iteP (decide (y2.fst = 1))
 (iteP (!decide (y2.snd.snd = { data := #[] }))
 (callK [(false, Sy.bool)]
 (g_isBlk
 [T.ref
 [T.ref
 [T.v (Value.string a0.fst),
 T.sl false (List.map yNode.enc a0.snd.fst),
 T.sl false (List.map yPart.enc a0.snd.snd.fst),
 T.sl false (List.map ySeam.enc a0.snd.snd.snd.fst),
 T.sl false (List.map yPackage.enc a0.snd.snd.snd.snd.fst),
 T.sl false (List.map yNeed.enc a0.snd.snd.snd.snd.snd)],
 T.mp (encM m1), T.mp (encM m2), T.mp (encM m3),
 T.mp (encM m4)],
 T.v (Value.string y2.snd.snd)])
 fun (y6 : Bool) =>
 iteP (!y6) (R (T.v (Value.int IntKind.i64 8)))
 (iteP (decide (y2.fst = 2))
 (callK [(false, Sy.bool)]
 (g_isBlk
 [T.ref
 [T.ref
 [T.v (Value.string a0.fst),
 T.sl false (List.map yNode.enc a0.snd.fst),
 T.sl false (List.map yPart.enc a0.snd.snd.fst),
 T.sl false (List.map ySeam.enc a0.snd.snd.snd.fst),
 T.sl false (List.map yPackage.enc a0.snd.snd.snd.snd.fst),
 T.sl false (List.map yNeed.enc a0.snd.snd.snd.snd.snd)],
 T.mp (encM m1), T.mp (encM m2),
 T.mp (encM m3), T.mp (encM m4)],
 T.v (Value.string y2.snd.snd)])
 fun (y7 : Bool) =>
 iteP (!y7) (R (T.v (Value.int IntKind.i64 8)))
 (iteP (decide (y2.fst = 3)) (X0 (IntKind.i64.wrap (s1.fst + 1), ()))
 (X0 (IntKind.i64.wrap (s1.fst + 1), ()))))
 (iteP (decide (y2.fst = 3)) (X0 (IntKind.i64.wrap (s1.fst + 1), ()))
 (X0 (IntKind.i64.wrap (s1.fst + 1), ())))))
 (iteP (decide (y2.fst = 2))
 (callK [(false, Sy.bool)]
 (g_isBlk
 [T.ref
 [T.ref
 [T.v (Value.string a0.fst),
 T.sl false (List.map yNode.enc a0.snd.fst),
 T.sl false (List.map yPart.enc a0.snd.snd.fst),
 T.sl false (List.map ySeam.enc a0.snd.snd.snd.fst),
 T.sl false (List.map yPackage.enc a0.snd.snd.snd.snd.fst),
 T.sl false (List.map yNeed.enc a0.snd.snd.snd.snd.snd)],
 T.mp (encM m1), T.mp (encM m2), T.mp (encM m3),
 T.mp (encM m4)],
 T.v (Value.string y2.snd.snd)])
 fun (y8 : Bool) =>
 iteP (!y8) (R (T.v (Value.int IntKind.i64 8)))
 (iteP (decide (y2.fst = 3)) (X0 (IntKind.i64.wrap (s1.fst + 1), ()))
 (X0 (IntKind.i64.wrap (s1.fst + 1), ()))))
 (iteP (decide (y2.fst = 3)) (X0 (IntKind.i64.wrap (s1.fst + 1), ()))
 (X0 (IntKind.i64.wrap (s1.fst + 1), ())))))
 (iteP (decide (y2.fst = 2))
 (callK [(false, Sy.bool)]
 (g_isBlk
 [T.ref
 [T.ref
 [T.v (Value.string a0.fst),
 T.sl false (List.map yNode.enc a0.snd.fst),
 T.sl false (List.map yPart.enc a0.snd.snd.fst),
 T.sl false (List.map ySeam.enc a0.snd.snd.snd.fst),
 T.sl false (List.map yPackage.enc a0.snd.snd.snd.snd.fst),
 T.sl false (List.map yNeed.enc a0.snd.snd.snd.snd.snd)],
 T.mp (encM m1), T.mp (encM m2), T.mp (encM m3),
 T.mp (encM m4)],
 T.v (Value.string y2.snd.snd)])
 fun (y9 : Bool) =>
 iteP (!y9) (R (T.v (Value.int IntKind.i64 8)))
 (iteP (decide (y2.fst = 3)) (X0 (IntKind.i64.wrap (s1.fst + 1), ()))
 (X0 (IntKind.i64.wrap (s1.fst + 1), ()))))
 (iteP (decide (y2.fst = 3)) (X0 (IntKind.i64.wrap (s1.fst + 1), ()))
 (X0 (IntKind.i64.wrap (s1.fst + 1), ())))))))))
 (R (T.v (Value.int IntKind.i64 0))))
 (0, ())
theorem F_cNeeds_eq (a0 : TDesign) (m1 : List (ByteArray × Int)) (m2 : List (ByteArray × Int)) (m3 : List (ByteArray × Int)) (m4 : List (ByteArray × Int)) (R : T → Prop) : sxTop stdC2 Tryz.prog E_cNeeds H_cNeeds 8 16 (A_cNeeds a0 m1 m2 m3 m4) R = F_cNeeds a0 m1 m2 m3 m4 R := by kernel_rfl
abbrev r_cNeeds : Sh := [(false, Sy.int IntKind.i64)]
theorem r_cNeeds_call (y : Sh.den r_cNeeds) (K : Sh.den r_cNeeds → Prop) : callK r_cNeeds (some (Sh.enc r_cNeeds y)) K = K y := callK_enc rfl y K

theorem A_cNeeds_inj (x y : TDesign × MP × MP × MP × MP) (h : A_cNeeds x.1 x.2.1 x.2.2.1 x.2.2.2.1 x.2.2.2.2 = A_cNeeds y.1 y.2.1 y.2.2.1 y.2.2.2.1 y.2.2.2.2) : x = y := tRef_inj (List.cons.inj h).1
def sp_cNeeds (x : TDesign × MP × MP × MP × MP) : Option T := onlyT x (T.v (Value.int .i64 (firstE (needE x.1) x.1.2.2.2.2.2)))
noncomputable def g_cNeeds : List T → Option (T) := gA (fun (x : TDesign × (List (ByteArray × Int)) × (List (ByteArray × Int)) × (List (ByteArray × Int)) × List (ByteArray × Int)) => A_cNeeds x.1 x.2.1 x.2.2.1 x.2.2.2.1 x.2.2.2.2) sp_cNeeds
theorem g_cNeeds_at (a0 : TDesign) (m1 : List (ByteArray × Int)) (m2 : List (ByteArray × Int)) (m3 : List (ByteArray × Int)) (m4 : List (ByteArray × Int)) : g_cNeeds (A_cNeeds a0 m1 m2 m3 m4) = sp_cNeeds (a0, m1, m2, m3, m4) := gA_at (A := (fun (x : TDesign × (List (ByteArray × Int)) × (List (ByteArray × Int)) × (List (ByteArray × Int)) × List (ByteArray × Int)) => A_cNeeds x.1 x.2.1 x.2.2.1 x.2.2.2.1 x.2.2.2.2)) A_cNeeds_inj (a0, m1, m2, m3, m4)
theorem of_cNeeds (h : ∀ (a0 : TDesign) (m1 : List (ByteArray × Int)) (m2 : List (ByteArray × Int)) (m3 : List (ByteArray × Int)) (m4 : List (ByteArray × Int)) (r : T), sp_cNeeds (a0, m1, m2, m3, m4) = some r → (∀ t ∈ A_cNeeds a0 m1 m2 m3 m4, Bd t) → F_cNeeds a0 m1 m2 m3 m4 (fun y => y = r)) : PureFn Tryz.prog 16 g_cNeeds :=
  pureFn_A (E := E_cNeeds) (Hs := H_cNeeds) Eok_cNeeds mixed' plain' (noHeap_of rfl) 8 ⟨_, _, Tryz.func16, rfl⟩ fun x r h1 h2 => by
    rw [F_cNeeds_eq]
    exact h x.1 x.2.1 x.2.2.1 x.2.2.2.1 x.2.2.2.2 r h1 h2

theorem fn_cNeeds : PureFn Tryz.prog 16 g_cNeeds := of_cNeeds fun d m1 m2 m3 m4 r h hb => by
  obtain ⟨hx, hs, rfl⟩ := onlyT_of h
  simp only [Prod.mk.injEq, true_and] at hx
  obtain ⟨rfl, rfl, rfl, rfl⟩ := hx
  replace hs : SmallD d := hs
  clear h
  unfold F_cNeeds
  refine first_loop (r := yNeed) (needE d) hs.r (fun X s y hy hok hbad => ?_) fun h0 => ?_
  · have bad : ∀ {n : Int}, n ≠ 0 → needE d y = n → T.v (Value.int IntKind.i64 n) = T.v (Value.int IntKind.i64 (firstE (needE d) d.2.2.2.2.2)) := fun hn h => by
      rw [hbad (by rw [h]; exact hn), h]
    clear hbad hb
    repeat' first
      | refine ixK (fun hn => ?_) (fun i j hj hn => ?_)
      | rw [isId_call]
      | refine callK_some (s := [(false, .bool)]) (g_isBlk_ok hs _) ?_
      | refine ifQ (fun h => ?_) (fun h => ?_)
      | refine ifP (fun h => ?_) (fun h => ?_)
      | refine ifNB (fun h => ?_) (fun h => ?_)
    all_goals first
      | (exfalso; omega)
      | (refine bad (by decide) ?_; clear bad hok; unfold needE; simp [*, partOf, packOf]; done)
      | (refine hok ?_; clear bad hok; unfold needE; simp [*, partOf, packOf]; done)
      | (refine hok ?_; clear bad hok hs hy; unfold needE; simp_all [partOf, packOf]; done)
  · show _ = T.v (Value.int IntKind.i64 (firstE (needE d) d.2.2.2.2.2))
    rw [h0]
end Go.Pv
