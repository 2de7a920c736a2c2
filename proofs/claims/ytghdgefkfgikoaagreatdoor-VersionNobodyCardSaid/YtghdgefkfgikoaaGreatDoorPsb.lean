/-
  The seam, the part, the section with an identifier.
-/
import Derived.Test.YtghdgefkfgikoaaGreatDoorPsa
set_option linter.unusedSimpArgs false
set_option linter.unusedVariables false
set_option maxRecDepth 100000
namespace Go.Pv
open Go Go.Proofs

def seamOf (d : TDesign) (id : ByteArray) : Option TSeam := d.2.2.2.1.find? fun s => decide (s.1 = id)
def partOf (d : TDesign) (id : ByteArray) : Option TPart := d.2.2.1.find? fun s => decide (s.1 = id)
def nodeOf (d : TDesign) (id : ByteArray) : Option TNode := d.2.1.find? fun s => decide (s.1 = id)
def secOf (m : TMaterials) (n : ByteArray) : Option TSection := m.2.find? fun s => decide (s.1 = n)
def noSeam : TSeam := (⟨#[]⟩, ⟨#[]⟩, ⟨#[]⟩, 0, 0, 0)
def noNode : TNode := (⟨#[]⟩, 0, ⟨#[]⟩)
def noPart : TPart := (⟨#[]⟩, 0, 0, ⟨#[]⟩, ⟨#[]⟩, 0, ([], []), ⟨#[]⟩, 0, 0, (0, 0, 0), (0, 0, 0), 0)
def noSec : TSection := (⟨#[]⟩, 0, 0, 0)
def found {α : Type} (no : α) (o : Option α) : α × Bool := match o with
  | some s => (s, true)
  | none => (no, false)
def sp_seam (x : TDesign × ByteArray) : Option T := some (Sh.enc [(true, ySeam), (false, .bool)] (found noSeam (seamOf x.1 x.2)))
def sp_part (x : TDesign × ByteArray) : Option T := some (Sh.enc [(true, yPart), (false, .bool)] (found noPart (partOf x.1 x.2)))
def sp_node (x : TDesign × ByteArray) : Option T := some (Sh.enc [(true, yNode), (false, .bool)] (found noNode (nodeOf x.1 x.2)))
def sp_section (x : TMaterials × ByteArray) : Option T := some (Sh.enc [(true, ySection), (false, .bool)] (found noSec (secOf x.1 x.2)))
abbrev sp_seam17 := sp_seam
abbrev sp_part17 := sp_part
abbrev sp_node17 := sp_node

set_option maxRecDepth 100000
noncomputable def E_seam17 : Env := Env.of []
def H_seam17 : FuncId → Hint := fun f => match f == 50 with | true => ⟨fun r => match r == 2 with | true => .inv [.val 6 false (.int .i64), .fix 1] | false => .none, fun _ _ => none, fun _ => none⟩ | false => noHint
theorem Eok_seam17 : EnvOk Tryz.prog E_seam17 := EnvOk.nil _
def F_seam17 (a0 : TDesign) (a1 : ByteArray) (R : T → Prop) : Prop :=
  sameK
  (Box.rows false
    [[D.p (T.v (Value.string { data := #[] })), D.p (T.v (Value.string { data := #[] })),
        D.p (T.v (Value.string { data := #[] })), D.p (T.v (Value.int IntKind.i64 0)),
        D.p (T.v (Value.int IntKind.i64 0)), D.p (T.v (Value.int IntKind.i64 0))]])
  (Box.rows false
    [[D.p (T.v (Value.string { data := #[] })), D.p (T.v (Value.string { data := #[] })),
        D.p (T.v (Value.string { data := #[] })), D.p (T.v (Value.int IntKind.i64 0)),
        D.p (T.v (Value.int IntKind.i64 0)), D.p (T.v (Value.int IntKind.i64 0))]])
  (loopK (Int × PUnit × PUnit)
    (fun (X0 : Int × PUnit × PUnit → Prop) (s1 : Int × PUnit × PUnit) =>
      iteP (decide (s1.fst < (↑(List.map ySeam.enc a0.snd.snd.snd.fst).length : Int)))
        (rowsK ySeam (List.map ySeam.enc a0.snd.snd.snd.fst) s1.fst fun (y2 : TSeam) =>
          iteP (decide (y2.fst = a1))
            (rowsK ySeam (List.map ySeam.enc a0.snd.snd.snd.fst) s1.fst fun (y3 : TSeam) =>
              R (T.tup [encV true ySeam y3, T.v (Value.bool true)]))
            (sameK
              (Box.rows false
                [[D.p (T.v (Value.string { data := #[] })),
                    D.p (T.v (Value.string { data := #[] })),
                    D.p (T.v (Value.string { data := #[] })),
                    D.p (T.v (Value.int IntKind.i64 0)),
                    D.p (T.v (Value.int IntKind.i64 0)),
                    D.p (T.v (Value.int IntKind.i64 0))]])
              (Box.rows false
                [[D.p (T.v (Value.string { data := #[] })),
                    D.p (T.v (Value.string { data := #[] })),
                    D.p (T.v (Value.string { data := #[] })),
                    D.p (T.v (Value.int IntKind.i64 0)),
                    D.p (T.v (Value.int IntKind.i64 0)),
                    D.p (T.v (Value.int IntKind.i64 0))]])
              (X0 (IntKind.i64.wrap (s1.fst + 1), (), ()))))
        (R
          (T.tup
            [T.agg
                [T.v (Value.string { data := #[] }), T.v (Value.string { data := #[] }),
                  T.v (Value.string { data := #[] }), T.v (Value.int IntKind.i64 0),
                  T.v (Value.int IntKind.i64 0), T.v (Value.int IntKind.i64 0)],
              T.v (Value.bool false)])))
    (0, (), ()))
theorem F_seam17_eq (a0 : TDesign) (a1 : ByteArray) (R : T → Prop) : sxTop stdC2 Tryz.prog E_seam17 H_seam17 8 50 [encV true yDesign a0, encV false Sy.str a1] R = F_seam17 a0 a1 R := by kernel_rfl
abbrev s_seam17 : Sh := [(true, yDesign), (false, Sy.str)]
abbrev r_seam17 : Sh := [(true, ySeam), (false, Sy.bool)]
theorem r_seam17_call (y : Sh.den r_seam17) (K : Sh.den r_seam17 → Prop) : callK r_seam17 (some (Sh.enc r_seam17 y)) K = K y := callK_enc rfl y K

noncomputable def g_seam17 : List T → Option (T) := gS s_seam17 sp_seam17
theorem g_seam17_at {a0 : TDesign} {a1 : ByteArray} : g_seam17 [encV true yDesign a0, T.v (Value.string a1)] = sp_seam17 (a0, a1) := gS_enc (s := s_seam17) rfl (a0, a1) rfl
theorem g_seam17_op {u0 u1 u2 u3 u4 u5 u6} : g_seam17 [T.agg
    [T.v (Value.string u0), T.sl false (List.map yNode.enc u1),
      T.sl false (List.map yPart.enc u2),
      T.sl false (List.map ySeam.enc u3),
      T.sl false (List.map yPackage.enc u4),
      T.sl false (List.map yNeed.enc u5)],
  T.v (Value.string u6)] = sp_seam17 ((u0, (u1, (u2, (u3, (u4, u5))))), u6) := gS_enc (s := s_seam17) rfl ((u0, (u1, (u2, (u3, (u4, u5))))), u6) rfl
theorem of_seam17 (h : ∀ (a0 : TDesign) (a1 : ByteArray) (r : T), sp_seam17 (a0, a1) = some r → BdSh s_seam17 (a0, a1) → F_seam17 a0 a1 (fun y => y = r)) : PureFn Tryz.prog 50 g_seam17 :=
  pureFn_S (E := E_seam17) (Hs := H_seam17) Eok_seam17 mixed' plain' (noHeap_of rfl) 8 ⟨_, _, Tryz.func50, rfl⟩ rfl fun x r h1 h2 => by
    obtain ⟨a0, a1⟩ := x
    rw [show Sh.encs s_seam17 (a0, a1) = [encV true yDesign a0, encV false Sy.str a1] from rfl, F_seam17_eq]
    exact h a0 a1 r h1 h2

theorem fn_seam17 : PureFn Tryz.prog 50 g_seam17 := of_seam17 fun d id r h hb => by
  have hl : d.2.2.2.1.length ≤ 2 ^ 47 := hb.1.2.2.2.1.1
  unfold F_seam17
  rw [sameK_self]
  refine loopK_ix d.2.2.2.1.length (fun k s => s = ((k : Int), (), ()) ∧ (d.2.2.2.1.drop k).find? (fun s => decide (s.1 = id)) = seamOf d id) ⟨rfl, rfl⟩ ?_
  rintro X k s hk ⟨rfl, hf⟩ hX
  simp only [List.length_map, len_lt, sameK_self]
  by_cases hlt : k < d.2.2.2.1.length
  · rw [find_drop hlt] at hf
    simp only [hlt, decide_true, iteP, rowsK_at (r := ySeam) hlt]
    cases hc : decide (d.2.2.2.1[k].1 = id) with
    | true =>
      simp only [hc, if_true] at hf
      simp only [sp_seam17, sp_seam, ← hf] at h
      cases h; rfl
    | false =>
      simp only [hc] at hf
      refine hX _ hlt ⟨?_, hf⟩
      simp only [Prod.mk.injEq, and_true]
      exact wrap_id _ (by omega) (by omega)
  · have : k = d.2.2.2.1.length := by omega
    subst this
    simp only [List.drop_length, List.find?_nil] at hf
    simp only [sp_seam17, sp_seam, ← hf] at h
    simp only [hlt, decide_false, iteP]
    cases h; rfl
set_option maxRecDepth 100000
noncomputable def E_seam : Env := Env.of []
def H_seam : FuncId → Hint := fun f => match f == 246 with | true => ⟨fun r => match r == 2 with | true => .inv [.val 11 false (.int .i64), .fix 1] | false => .none, fun _ _ => none, fun _ => none⟩ | false => noHint
theorem Eok_seam : EnvOk Tryz.prog E_seam := EnvOk.nil _
def F_seam (a0 : TDesign) (a1 : ByteArray) (R : T → Prop) : Prop :=
  sameK
  (Box.rows false
    [[D.p (T.v (Value.string { data := #[] })), D.p (T.v (Value.string { data := #[] })),
        D.p (T.v (Value.string { data := #[] })), D.p (T.v (Value.int IntKind.i64 0)),
        D.p (T.v (Value.int IntKind.i64 0)), D.p (T.v (Value.int IntKind.i64 0))]])
  (Box.rows false
    [[D.p (T.v (Value.string { data := #[] })), D.p (T.v (Value.string { data := #[] })),
        D.p (T.v (Value.string { data := #[] })), D.p (T.v (Value.int IntKind.i64 0)),
        D.p (T.v (Value.int IntKind.i64 0)), D.p (T.v (Value.int IntKind.i64 0))]])
  (loopK (Int × PUnit × PUnit)
    (fun (X0 : Int × PUnit × PUnit → Prop) (s1 : Int × PUnit × PUnit) =>
      iteP (decide (s1.fst < (↑(List.map ySeam.enc a0.snd.snd.snd.fst).length : Int)))
        (rowsK ySeam (List.map ySeam.enc a0.snd.snd.snd.fst) s1.fst fun (y2 : TSeam) =>
          iteP (decide (y2.fst = a1))
            (R (T.tup [encV true ySeam y2, T.v (Value.bool true)]))
            (sameK
              (Box.rows false
                [[D.p (T.v (Value.string { data := #[] })),
                    D.p (T.v (Value.string { data := #[] })),
                    D.p (T.v (Value.string { data := #[] })),
                    D.p (T.v (Value.int IntKind.i64 0)),
                    D.p (T.v (Value.int IntKind.i64 0)),
                    D.p (T.v (Value.int IntKind.i64 0))]])
              (Box.rows false
                [[D.p (T.v (Value.string { data := #[] })),
                    D.p (T.v (Value.string { data := #[] })),
                    D.p (T.v (Value.string { data := #[] })),
                    D.p (T.v (Value.int IntKind.i64 0)),
                    D.p (T.v (Value.int IntKind.i64 0)),
                    D.p (T.v (Value.int IntKind.i64 0))]])
              (X0 (IntKind.i64.wrap (s1.fst + 1), (), ()))))
        (R
          (T.tup
            [T.agg
                [T.v (Value.string { data := #[] }), T.v (Value.string { data := #[] }),
                  T.v (Value.string { data := #[] }), T.v (Value.int IntKind.i64 0),
                  T.v (Value.int IntKind.i64 0), T.v (Value.int IntKind.i64 0)],
              T.v (Value.bool false)])))
    (0, (), ()))
theorem F_seam_eq (a0 : TDesign) (a1 : ByteArray) (R : T → Prop) : sxTop stdC2 Tryz.prog E_seam H_seam 8 246 [encV true yDesign a0, encV false Sy.str a1] R = F_seam a0 a1 R := by kernel_rfl
abbrev s_seam : Sh := [(true, yDesign), (false, Sy.str)]
abbrev r_seam : Sh := [(true, ySeam), (false, Sy.bool)]
theorem r_seam_call (y : Sh.den r_seam) (K : Sh.den r_seam → Prop) : callK r_seam (some (Sh.enc r_seam y)) K = K y := callK_enc rfl y K

noncomputable def g_seam : List T → Option (T) := gS s_seam sp_seam
theorem g_seam_at {a0 : TDesign} {a1 : ByteArray} : g_seam [encV true yDesign a0, T.v (Value.string a1)] = sp_seam (a0, a1) := gS_enc (s := s_seam) rfl (a0, a1) rfl
theorem g_seam_op {u0 u1 u2 u3 u4 u5 u6} : g_seam [T.agg
    [T.v (Value.string u0), T.sl false (List.map yNode.enc u1),
      T.sl false (List.map yPart.enc u2),
      T.sl false (List.map ySeam.enc u3),
      T.sl false (List.map yPackage.enc u4),
      T.sl false (List.map yNeed.enc u5)],
  T.v (Value.string u6)] = sp_seam ((u0, (u1, (u2, (u3, (u4, u5))))), u6) := gS_enc (s := s_seam) rfl ((u0, (u1, (u2, (u3, (u4, u5))))), u6) rfl
theorem of_seam (h : ∀ (a0 : TDesign) (a1 : ByteArray) (r : T), sp_seam (a0, a1) = some r → BdSh s_seam (a0, a1) → F_seam a0 a1 (fun y => y = r)) : PureFn Tryz.prog 246 g_seam :=
  pureFn_S (E := E_seam) (Hs := H_seam) Eok_seam mixed' plain' (noHeap_of rfl) 8 ⟨_, _, Tryz.func246, rfl⟩ rfl fun x r h1 h2 => by
    obtain ⟨a0, a1⟩ := x
    rw [show Sh.encs s_seam (a0, a1) = [encV true yDesign a0, encV false Sy.str a1] from rfl, F_seam_eq]
    exact h a0 a1 r h1 h2

theorem fn_seam : PureFn Tryz.prog 246 g_seam := of_seam fun d id r h hb => by
  have hl : d.2.2.2.1.length ≤ 2 ^ 47 := hb.1.2.2.2.1.1
  unfold F_seam
  rw [sameK_self]
  refine loopK_ix d.2.2.2.1.length (fun k s => s = ((k : Int), (), ()) ∧ (d.2.2.2.1.drop k).find? (fun s => decide (s.1 = id)) = seamOf d id) ⟨rfl, rfl⟩ ?_
  rintro X k s hk ⟨rfl, hf⟩ hX
  simp only [List.length_map, len_lt, sameK_self]
  by_cases hlt : k < d.2.2.2.1.length
  · rw [find_drop hlt] at hf
    simp only [hlt, decide_true, iteP, rowsK_at (r := ySeam) hlt]
    cases hc : decide (d.2.2.2.1[k].1 = id) with
    | true =>
      simp only [hc, if_true] at hf
      simp only [sp_seam, sp_seam, ← hf] at h
      cases h; rfl
    | false =>
      simp only [hc] at hf
      refine hX _ hlt ⟨?_, hf⟩
      simp only [Prod.mk.injEq, and_true]
      exact wrap_id _ (by omega) (by omega)
  · have : k = d.2.2.2.1.length := by omega
    subst this
    simp only [List.drop_length, List.find?_nil] at hf
    simp only [sp_seam, sp_seam, ← hf] at h
    simp only [hlt, decide_false, iteP]
    cases h; rfl
set_option maxRecDepth 100000
noncomputable def E_part17 : Env := Env.of []
def H_part17 : FuncId → Hint := fun f => match f == 49 with | true => ⟨fun r => match r == 2 with | true => .inv [.val 6 false (.int .i64), .fix 1] | false => .none, fun _ _ => none, fun _ => none⟩ | false => noHint
theorem Eok_part17 : EnvOk Tryz.prog E_part17 := EnvOk.nil _
def F_part17 (a0 : TDesign) (a1 : ByteArray) (R : T → Prop) : Prop :=
  sameK
  (Box.rows false
    [[D.p (T.v (Value.string { data := #[] })), D.p (T.v (Value.int IntKind.i64 0)),
        D.p (T.v (Value.int IntKind.i64 0)), D.p (T.v (Value.string { data := #[] })),
        D.p (T.v (Value.string { data := #[] })), D.p (T.v (Value.int IntKind.i64 0)),
        D.p (T.v (Value.slice none 0 0)), D.p (T.v (Value.slice none 0 0)),
        D.p (T.v (Value.string { data := #[] })), D.p (T.v (Value.int IntKind.i64 0)),
        D.p (T.v (Value.int IntKind.i64 0)), D.p (T.v (Value.int IntKind.i64 0)),
        D.p (T.v (Value.int IntKind.i64 0)), D.p (T.v (Value.int IntKind.i64 0)),
        D.p (T.v (Value.int IntKind.i64 0)), D.p (T.v (Value.int IntKind.i64 0)),
        D.p (T.v (Value.int IntKind.i64 0)), D.p (T.v (Value.int IntKind.i64 0))]])
  (Box.rows false
    [[D.p (T.v (Value.string { data := #[] })), D.p (T.v (Value.int IntKind.i64 0)),
        D.p (T.v (Value.int IntKind.i64 0)), D.p (T.v (Value.string { data := #[] })),
        D.p (T.v (Value.string { data := #[] })), D.p (T.v (Value.int IntKind.i64 0)),
        D.p (T.v (Value.slice none 0 0)), D.p (T.v (Value.slice none 0 0)),
        D.p (T.v (Value.string { data := #[] })), D.p (T.v (Value.int IntKind.i64 0)),
        D.p (T.v (Value.int IntKind.i64 0)), D.p (T.v (Value.int IntKind.i64 0)),
        D.p (T.v (Value.int IntKind.i64 0)), D.p (T.v (Value.int IntKind.i64 0)),
        D.p (T.v (Value.int IntKind.i64 0)), D.p (T.v (Value.int IntKind.i64 0)),
        D.p (T.v (Value.int IntKind.i64 0)), D.p (T.v (Value.int IntKind.i64 0))]])
  (loopK (Int × PUnit × PUnit)
    (fun (X0 : Int × PUnit × PUnit → Prop) (s1 : Int × PUnit × PUnit) =>
      iteP (decide (s1.fst < (↑(List.map yPart.enc a0.snd.snd.fst).length : Int)))
        (rowsK yPart (List.map yPart.enc a0.snd.snd.fst) s1.fst fun (y2 : TPart) =>
          iteP (decide (y2.fst = a1))
            (rowsK yPart (List.map yPart.enc a0.snd.snd.fst) s1.fst fun (y3 : TPart) =>
              R (T.tup [encV true yPart y3, T.v (Value.bool true)]))
            (sameK
              (Box.rows false
                [[D.p (T.v (Value.string { data := #[] })),
                    D.p (T.v (Value.int IntKind.i64 0)),
                    D.p (T.v (Value.int IntKind.i64 0)),
                    D.p (T.v (Value.string { data := #[] })),
                    D.p (T.v (Value.string { data := #[] })),
                    D.p (T.v (Value.int IntKind.i64 0)),
                    D.p (T.v (Value.slice none 0 0)), D.p (T.v (Value.slice none 0 0)),
                    D.p (T.v (Value.string { data := #[] })),
                    D.p (T.v (Value.int IntKind.i64 0)),
                    D.p (T.v (Value.int IntKind.i64 0)),
                    D.p (T.v (Value.int IntKind.i64 0)),
                    D.p (T.v (Value.int IntKind.i64 0)),
                    D.p (T.v (Value.int IntKind.i64 0)),
                    D.p (T.v (Value.int IntKind.i64 0)),
                    D.p (T.v (Value.int IntKind.i64 0)),
                    D.p (T.v (Value.int IntKind.i64 0)),
                    D.p (T.v (Value.int IntKind.i64 0))]])
              (Box.rows false
                [[D.p (T.v (Value.string { data := #[] })),
                    D.p (T.v (Value.int IntKind.i64 0)),
                    D.p (T.v (Value.int IntKind.i64 0)),
                    D.p (T.v (Value.string { data := #[] })),
                    D.p (T.v (Value.string { data := #[] })),
                    D.p (T.v (Value.int IntKind.i64 0)),
                    D.p (T.v (Value.slice none 0 0)), D.p (T.v (Value.slice none 0 0)),
                    D.p (T.v (Value.string { data := #[] })),
                    D.p (T.v (Value.int IntKind.i64 0)),
                    D.p (T.v (Value.int IntKind.i64 0)),
                    D.p (T.v (Value.int IntKind.i64 0)),
                    D.p (T.v (Value.int IntKind.i64 0)),
                    D.p (T.v (Value.int IntKind.i64 0)),
                    D.p (T.v (Value.int IntKind.i64 0)),
                    D.p (T.v (Value.int IntKind.i64 0)),
                    D.p (T.v (Value.int IntKind.i64 0)),
                    D.p (T.v (Value.int IntKind.i64 0))]])
              (X0 (IntKind.i64.wrap (s1.fst + 1), (), ()))))
        (R
          (T.tup
            [T.agg
                [T.v (Value.string { data := #[] }), T.v (Value.int IntKind.i64 0),
                  T.v (Value.int IntKind.i64 0), T.v (Value.string { data := #[] }),
                  T.v (Value.string { data := #[] }), T.v (Value.int IntKind.i64 0),
                  T.sl false [], T.sl false [], T.v (Value.string { data := #[] }),
                  T.v (Value.int IntKind.i64 0), T.v (Value.int IntKind.i64 0),
                  T.v (Value.int IntKind.i64 0), T.v (Value.int IntKind.i64 0),
                  T.v (Value.int IntKind.i64 0), T.v (Value.int IntKind.i64 0),
                  T.v (Value.int IntKind.i64 0), T.v (Value.int IntKind.i64 0),
                  T.v (Value.int IntKind.i64 0)],
              T.v (Value.bool false)])))
    (0, (), ()))
theorem F_part17_eq (a0 : TDesign) (a1 : ByteArray) (R : T → Prop) : sxTop stdC2 Tryz.prog E_part17 H_part17 8 49 [encV true yDesign a0, encV false Sy.str a1] R = F_part17 a0 a1 R := by kernel_rfl
abbrev s_part17 : Sh := [(true, yDesign), (false, Sy.str)]
abbrev r_part17 : Sh := [(true, yPart), (false, Sy.bool)]
theorem r_part17_call (y : Sh.den r_part17) (K : Sh.den r_part17 → Prop) : callK r_part17 (some (Sh.enc r_part17 y)) K = K y := callK_enc rfl y K

noncomputable def g_part17 : List T → Option (T) := gS s_part17 sp_part17
theorem g_part17_at {a0 : TDesign} {a1 : ByteArray} : g_part17 [encV true yDesign a0, T.v (Value.string a1)] = sp_part17 (a0, a1) := gS_enc (s := s_part17) rfl (a0, a1) rfl
theorem g_part17_op {u0 u1 u2 u3 u4 u5 u6} : g_part17 [T.agg
    [T.v (Value.string u0), T.sl false (List.map yNode.enc u1),
      T.sl false (List.map yPart.enc u2),
      T.sl false (List.map ySeam.enc u3),
      T.sl false (List.map yPackage.enc u4),
      T.sl false (List.map yNeed.enc u5)],
  T.v (Value.string u6)] = sp_part17 ((u0, (u1, (u2, (u3, (u4, u5))))), u6) := gS_enc (s := s_part17) rfl ((u0, (u1, (u2, (u3, (u4, u5))))), u6) rfl
theorem of_part17 (h : ∀ (a0 : TDesign) (a1 : ByteArray) (r : T), sp_part17 (a0, a1) = some r → BdSh s_part17 (a0, a1) → F_part17 a0 a1 (fun y => y = r)) : PureFn Tryz.prog 49 g_part17 :=
  pureFn_S (E := E_part17) (Hs := H_part17) Eok_part17 mixed' plain' (noHeap_of rfl) 8 ⟨_, _, Tryz.func49, rfl⟩ rfl fun x r h1 h2 => by
    obtain ⟨a0, a1⟩ := x
    rw [show Sh.encs s_part17 (a0, a1) = [encV true yDesign a0, encV false Sy.str a1] from rfl, F_part17_eq]
    exact h a0 a1 r h1 h2

theorem fn_part17 : PureFn Tryz.prog 49 g_part17 := of_part17 fun d id r h hb => by
  have hl : d.2.2.1.length ≤ 2 ^ 47 := hb.1.2.2.1.1
  unfold F_part17
  rw [sameK_self]
  refine loopK_ix d.2.2.1.length (fun k s => s = ((k : Int), (), ()) ∧ (d.2.2.1.drop k).find? (fun s => decide (s.1 = id)) = partOf d id) ⟨rfl, rfl⟩ ?_
  rintro X k s hk ⟨rfl, hf⟩ hX
  simp only [List.length_map, len_lt, sameK_self]
  by_cases hlt : k < d.2.2.1.length
  · rw [find_drop hlt] at hf
    simp only [hlt, decide_true, iteP, rowsK_at (r := yPart) hlt]
    cases hc : decide (d.2.2.1[k].1 = id) with
    | true =>
      simp only [hc, if_true] at hf
      simp only [sp_part17, sp_part, ← hf] at h
      cases h; rfl
    | false =>
      simp only [hc] at hf
      refine hX _ hlt ⟨?_, hf⟩
      simp only [Prod.mk.injEq, and_true]
      exact wrap_id _ (by omega) (by omega)
  · have : k = d.2.2.1.length := by omega
    subst this
    simp only [List.drop_length, List.find?_nil] at hf
    simp only [sp_part17, sp_part, ← hf] at h
    simp only [hlt, decide_false, iteP]
    cases h; rfl
set_option maxRecDepth 100000
noncomputable def E_node17 : Env := Env.of []
def H_node17 : FuncId → Hint := fun f => match f == 48 with | true => ⟨fun r => match r == 2 with | true => .inv [.val 6 false (.int .i64), .fix 1] | false => .none, fun _ _ => none, fun _ => none⟩ | false => noHint
theorem Eok_node17 : EnvOk Tryz.prog E_node17 := EnvOk.nil _
def F_node17 (a0 : TDesign) (a1 : ByteArray) (R : T → Prop) : Prop :=
  sameK
  (Box.rows false
    [[D.p (T.v (Value.string { data := #[] })), D.p (T.v (Value.int IntKind.i64 0)),
        D.p (T.v (Value.string { data := #[] }))]])
  (Box.rows false
    [[D.p (T.v (Value.string { data := #[] })), D.p (T.v (Value.int IntKind.i64 0)),
        D.p (T.v (Value.string { data := #[] }))]])
  (loopK (Int × PUnit × PUnit)
    (fun (X0 : Int × PUnit × PUnit → Prop) (s1 : Int × PUnit × PUnit) =>
      iteP (decide (s1.fst < (↑(List.map yNode.enc a0.snd.fst).length : Int)))
        (rowsK yNode (List.map yNode.enc a0.snd.fst) s1.fst fun (y2 : TNode) =>
          iteP (decide (y2.fst = a1))
            (rowsK yNode (List.map yNode.enc a0.snd.fst) s1.fst fun (y3 : TNode) =>
              R (T.tup [encV true yNode y3, T.v (Value.bool true)]))
            (sameK
              (Box.rows false
                [[D.p (T.v (Value.string { data := #[] })),
                    D.p (T.v (Value.int IntKind.i64 0)),
                    D.p (T.v (Value.string { data := #[] }))]])
              (Box.rows false
                [[D.p (T.v (Value.string { data := #[] })),
                    D.p (T.v (Value.int IntKind.i64 0)),
                    D.p (T.v (Value.string { data := #[] }))]])
              (X0 (IntKind.i64.wrap (s1.fst + 1), (), ()))))
        (R
          (T.tup
            [T.agg
                [T.v (Value.string { data := #[] }), T.v (Value.int IntKind.i64 0),
                  T.v (Value.string { data := #[] })],
              T.v (Value.bool false)])))
    (0, (), ()))
theorem F_node17_eq (a0 : TDesign) (a1 : ByteArray) (R : T → Prop) : sxTop stdC2 Tryz.prog E_node17 H_node17 8 48 [encV true yDesign a0, encV false Sy.str a1] R = F_node17 a0 a1 R := by kernel_rfl
abbrev s_node17 : Sh := [(true, yDesign), (false, Sy.str)]
abbrev r_node17 : Sh := [(true, yNode), (false, Sy.bool)]
theorem r_node17_call (y : Sh.den r_node17) (K : Sh.den r_node17 → Prop) : callK r_node17 (some (Sh.enc r_node17 y)) K = K y := callK_enc rfl y K

noncomputable def g_node17 : List T → Option (T) := gS s_node17 sp_node17
theorem g_node17_at {a0 : TDesign} {a1 : ByteArray} : g_node17 [encV true yDesign a0, T.v (Value.string a1)] = sp_node17 (a0, a1) := gS_enc (s := s_node17) rfl (a0, a1) rfl
theorem g_node17_op {u0 u1 u2 u3 u4 u5 u6} : g_node17 [T.agg
    [T.v (Value.string u0), T.sl false (List.map yNode.enc u1),
      T.sl false (List.map yPart.enc u2),
      T.sl false (List.map ySeam.enc u3),
      T.sl false (List.map yPackage.enc u4),
      T.sl false (List.map yNeed.enc u5)],
  T.v (Value.string u6)] = sp_node17 ((u0, (u1, (u2, (u3, (u4, u5))))), u6) := gS_enc (s := s_node17) rfl ((u0, (u1, (u2, (u3, (u4, u5))))), u6) rfl
theorem of_node17 (h : ∀ (a0 : TDesign) (a1 : ByteArray) (r : T), sp_node17 (a0, a1) = some r → BdSh s_node17 (a0, a1) → F_node17 a0 a1 (fun y => y = r)) : PureFn Tryz.prog 48 g_node17 :=
  pureFn_S (E := E_node17) (Hs := H_node17) Eok_node17 mixed' plain' (noHeap_of rfl) 8 ⟨_, _, Tryz.func48, rfl⟩ rfl fun x r h1 h2 => by
    obtain ⟨a0, a1⟩ := x
    rw [show Sh.encs s_node17 (a0, a1) = [encV true yDesign a0, encV false Sy.str a1] from rfl, F_node17_eq]
    exact h a0 a1 r h1 h2

theorem fn_node17 : PureFn Tryz.prog 48 g_node17 := of_node17 fun d id r h hb => by
  have hl : d.2.1.length ≤ 2 ^ 47 := hb.1.2.1.1
  unfold F_node17
  rw [sameK_self]
  refine loopK_ix d.2.1.length (fun k s => s = ((k : Int), (), ()) ∧ (d.2.1.drop k).find? (fun s => decide (s.1 = id)) = nodeOf d id) ⟨rfl, rfl⟩ ?_
  rintro X k s hk ⟨rfl, hf⟩ hX
  simp only [List.length_map, len_lt, sameK_self]
  by_cases hlt : k < d.2.1.length
  · rw [find_drop hlt] at hf
    simp only [hlt, decide_true, iteP, rowsK_at (r := yNode) hlt]
    cases hc : decide (d.2.1[k].1 = id) with
    | true =>
      simp only [hc, if_true] at hf
      simp only [sp_node17, sp_node, ← hf] at h
      cases h; rfl
    | false =>
      simp only [hc] at hf
      refine hX _ hlt ⟨?_, hf⟩
      simp only [Prod.mk.injEq, and_true]
      exact wrap_id _ (by omega) (by omega)
  · have : k = d.2.1.length := by omega
    subst this
    simp only [List.drop_length, List.find?_nil] at hf
    simp only [sp_node17, sp_node, ← hf] at h
    simp only [hlt, decide_false, iteP]
    cases h; rfl
set_option maxRecDepth 100000
noncomputable def E_node : Env := Env.of []
def H_node : FuncId → Hint := fun f => match f == 198 with | true => ⟨fun r => match r == 2 with | true => .inv [.val 11 false (.int .i64), .fix 1] | false => .none, fun _ _ => none, fun _ => none⟩ | false => noHint
theorem Eok_node : EnvOk Tryz.prog E_node := EnvOk.nil _
def F_node (a0 : TDesign) (a1 : ByteArray) (R : T → Prop) : Prop :=
  sameK
  (Box.rows false
    [[D.p (T.v (Value.string { data := #[] })), D.p (T.v (Value.int IntKind.i64 0)),
        D.p (T.v (Value.string { data := #[] }))]])
  (Box.rows false
    [[D.p (T.v (Value.string { data := #[] })), D.p (T.v (Value.int IntKind.i64 0)),
        D.p (T.v (Value.string { data := #[] }))]])
  (loopK (Int × PUnit × PUnit)
    (fun (X0 : Int × PUnit × PUnit → Prop) (s1 : Int × PUnit × PUnit) =>
      iteP (decide (s1.fst < (↑(List.map yNode.enc a0.snd.fst).length : Int)))
        (rowsK yNode (List.map yNode.enc a0.snd.fst) s1.fst fun (y2 : TNode) =>
          iteP (decide (y2.fst = a1))
            (R (T.tup [encV true yNode y2, T.v (Value.bool true)]))
            (sameK
              (Box.rows false
                [[D.p (T.v (Value.string { data := #[] })),
                    D.p (T.v (Value.int IntKind.i64 0)),
                    D.p (T.v (Value.string { data := #[] }))]])
              (Box.rows false
                [[D.p (T.v (Value.string { data := #[] })),
                    D.p (T.v (Value.int IntKind.i64 0)),
                    D.p (T.v (Value.string { data := #[] }))]])
              (X0 (IntKind.i64.wrap (s1.fst + 1), (), ()))))
        (R
          (T.tup
            [T.agg
                [T.v (Value.string { data := #[] }), T.v (Value.int IntKind.i64 0),
                  T.v (Value.string { data := #[] })],
              T.v (Value.bool false)])))
    (0, (), ()))
theorem F_node_eq (a0 : TDesign) (a1 : ByteArray) (R : T → Prop) : sxTop stdC2 Tryz.prog E_node H_node 8 198 [encV true yDesign a0, encV false Sy.str a1] R = F_node a0 a1 R := by kernel_rfl
abbrev s_node : Sh := [(true, yDesign), (false, Sy.str)]
abbrev r_node : Sh := [(true, yNode), (false, Sy.bool)]
theorem r_node_call (y : Sh.den r_node) (K : Sh.den r_node → Prop) : callK r_node (some (Sh.enc r_node y)) K = K y := callK_enc rfl y K

noncomputable def g_node : List T → Option (T) := gS s_node sp_node
theorem g_node_at {a0 : TDesign} {a1 : ByteArray} : g_node [encV true yDesign a0, T.v (Value.string a1)] = sp_node (a0, a1) := gS_enc (s := s_node) rfl (a0, a1) rfl
theorem g_node_op {u0 u1 u2 u3 u4 u5 u6} : g_node [T.agg
    [T.v (Value.string u0), T.sl false (List.map yNode.enc u1),
      T.sl false (List.map yPart.enc u2),
      T.sl false (List.map ySeam.enc u3),
      T.sl false (List.map yPackage.enc u4),
      T.sl false (List.map yNeed.enc u5)],
  T.v (Value.string u6)] = sp_node ((u0, (u1, (u2, (u3, (u4, u5))))), u6) := gS_enc (s := s_node) rfl ((u0, (u1, (u2, (u3, (u4, u5))))), u6) rfl
theorem of_node (h : ∀ (a0 : TDesign) (a1 : ByteArray) (r : T), sp_node (a0, a1) = some r → BdSh s_node (a0, a1) → F_node a0 a1 (fun y => y = r)) : PureFn Tryz.prog 198 g_node :=
  pureFn_S (E := E_node) (Hs := H_node) Eok_node mixed' plain' (noHeap_of rfl) 8 ⟨_, _, Tryz.func198, rfl⟩ rfl fun x r h1 h2 => by
    obtain ⟨a0, a1⟩ := x
    rw [show Sh.encs s_node (a0, a1) = [encV true yDesign a0, encV false Sy.str a1] from rfl, F_node_eq]
    exact h a0 a1 r h1 h2

theorem fn_node : PureFn Tryz.prog 198 g_node := of_node fun d id r h hb => by
  have hl : d.2.1.length ≤ 2 ^ 47 := hb.1.2.1.1
  unfold F_node
  rw [sameK_self]
  refine loopK_ix d.2.1.length (fun k s => s = ((k : Int), (), ()) ∧ (d.2.1.drop k).find? (fun s => decide (s.1 = id)) = nodeOf d id) ⟨rfl, rfl⟩ ?_
  rintro X k s hk ⟨rfl, hf⟩ hX
  simp only [List.length_map, len_lt, sameK_self]
  by_cases hlt : k < d.2.1.length
  · rw [find_drop hlt] at hf
    simp only [hlt, decide_true, iteP, rowsK_at (r := yNode) hlt]
    cases hc : decide (d.2.1[k].1 = id) with
    | true =>
      simp only [hc, if_true] at hf
      simp only [sp_node, sp_node, ← hf] at h
      cases h; rfl
    | false =>
      simp only [hc] at hf
      refine hX _ hlt ⟨?_, hf⟩
      simp only [Prod.mk.injEq, and_true]
      exact wrap_id _ (by omega) (by omega)
  · have : k = d.2.1.length := by omega
    subst this
    simp only [List.drop_length, List.find?_nil] at hf
    simp only [sp_node, sp_node, ← hf] at h
    simp only [hlt, decide_false, iteP]
    cases h; rfl
set_option maxRecDepth 100000
noncomputable def E_section : Env := Env.of []
def H_section : FuncId → Hint := fun f => match f == 160 with | true => ⟨fun r => match r == 2 with | true => .inv [.val 8 false (.int .i64)] | false => .none, fun _ _ => none, fun _ => none⟩ | false => noHint
theorem Eok_section : EnvOk Tryz.prog E_section := EnvOk.nil _
def F_section (a0 : TMaterials) (a1 : ByteArray) (R : T → Prop) : Prop :=
  loopK (Int × PUnit)
  (fun (X0 : Int × PUnit → Prop) (s1 : Int × PUnit) =>
    iteP (decide (s1.fst < (↑(List.map ySection.enc a0.snd).length : Int)))
      (rowsK ySection (List.map ySection.enc a0.snd) s1.fst fun (y2 : TSection) =>
        iteP (decide (y2.fst = a1))
          (iteP (decide (s1.fst < 0))
            (R
              (T.tup
                [T.agg
                    [T.v (Value.string { data := #[] }), T.v (Value.int IntKind.i64 0),
                      T.v (Value.int IntKind.i64 0), T.v (Value.int IntKind.i64 0)],
                  T.v (Value.bool false)]))
            (rowsK ySection (List.map ySection.enc a0.snd) s1.fst fun (y3 : TSection) =>
              R (T.tup [encV true ySection y3, T.v (Value.bool true)])))
          (X0 (IntKind.i64.wrap (s1.fst + 1), ())))
      (R
        (T.tup
          [T.agg
              [T.v (Value.string { data := #[] }), T.v (Value.int IntKind.i64 0),
                T.v (Value.int IntKind.i64 0), T.v (Value.int IntKind.i64 0)],
            T.v (Value.bool false)])))
  (0, ())
theorem F_section_eq (a0 : TMaterials) (a1 : ByteArray) (R : T → Prop) : sxTop stdC2 Tryz.prog E_section H_section 8 141 [encV true yMaterials a0, encV false Sy.str a1] R = F_section a0 a1 R := by kernel_rfl
abbrev s_section : Sh := [(true, yMaterials), (false, Sy.str)]
abbrev r_section : Sh := [(true, ySection), (false, Sy.bool)]
theorem r_section_call (y : Sh.den r_section) (K : Sh.den r_section → Prop) : callK r_section (some (Sh.enc r_section y)) K = K y := callK_enc rfl y K

noncomputable def g_section : List T → Option (T) := gS s_section sp_section
theorem g_section_at {a0 : TMaterials} {a1 : ByteArray} : g_section [encV true yMaterials a0, T.v (Value.string a1)] = sp_section (a0, a1) := gS_enc (s := s_section) rfl (a0, a1) rfl
theorem g_section_op {u0 u1 u2} : g_section [T.agg [T.sl false (List.map yGrade.enc u0), T.sl false (List.map ySection.enc u1)],
  T.v (Value.string u2)] = sp_section ((u0, u1), u2) := gS_enc (s := s_section) rfl ((u0, u1), u2) rfl
theorem of_section (h : ∀ (a0 : TMaterials) (a1 : ByteArray) (r : T), sp_section (a0, a1) = some r → BdSh s_section (a0, a1) → F_section a0 a1 (fun y => y = r)) : PureFn Tryz.prog 141 g_section :=
  pureFn_S (E := E_section) (Hs := H_section) Eok_section mixed' plain' (noHeap_of rfl) 8 ⟨_, _, Tryz.func141, rfl⟩ rfl fun x r h1 h2 => by
    obtain ⟨a0, a1⟩ := x
    rw [show Sh.encs s_section (a0, a1) = [encV true yMaterials a0, encV false Sy.str a1] from rfl, F_section_eq]
    exact h a0 a1 r h1 h2

theorem fn_section : PureFn Tryz.prog 141 g_section := of_section fun m n r h hb => by
  have hl : m.2.length ≤ 2 ^ 47 := hb.1.2.1
  unfold F_section
  refine loopK_ix m.2.length (fun k s => s = ((k : Int), ()) ∧ (m.2.drop k).find? (fun s => decide (s.1 = n)) = secOf m n) ⟨rfl, rfl⟩ ?_
  rintro X k s hk ⟨rfl, hf⟩ hX
  simp only [List.length_map, len_lt]
  by_cases hlt : k < m.2.length
  · rw [find_drop hlt] at hf
    have h0 : ¬ ((k : Int) < 0) := by omega
    simp only [hlt, decide_true, iteP, rowsK_at (r := ySection) hlt, h0, decide_false]
    cases hc : decide (m.2[k].1 = n) with
    | true =>
      simp only [hc, if_true] at hf
      simp only [sp_section, ← hf] at h
      cases h; rfl
    | false =>
      simp only [hc] at hf
      refine hX _ hlt ⟨?_, hf⟩
      simp only [Prod.mk.injEq, and_true]
      exact wrap_id _ (by omega) (by omega)
  · have : k = m.2.length := by omega
    subst this
    simp only [List.drop_length, List.find?_nil] at hf
    simp only [sp_section, ← hf] at h
    simp only [hlt, decide_false, iteP]
    cases h; rfl
end Go.Pv
