/-
  SeamThicks: Thick answers as the reference does.
-/
import Derived.Test.YtlpcelingpgmfaaDoorPsd
import Derived.Test.YtlpcelingpgmfaaDoorPa18
import Derived.Test.YtlpcelingpgmfaaDoorPkj
set_option linter.unusedSimpArgs false
set_option linter.unusedVariables false
set_option maxRecDepth 100000
namespace Go.Pv
open Go Go.Proofs

theorem g_awake18_call (K : Bool → Prop) : callK [(false, Sy.bool)] (g_awake18 []) K = K true := callK_enc (s := [(false, Sy.bool)]) rfl true K
def sp_lawThicks (x : TDesign × TMaterials × ByteArray) : Option T := onlyD x.1 (.v (.bool true))
set_option maxRecDepth 100000
noncomputable def E_lawThicks : Env := Env.of [(10, .pure g_light), (20, .pure g_thick), (21, .pure g_thick18), (7, .pure g_awake18)]
def H_lawThicks : FuncId → Hint := fun _ => noHint
theorem Eok_lawThicks : EnvOk Tryd.prog E_lawThicks := EnvOk.cons (x := .pure g_light) fn_light (EnvOk.cons (x := .pure g_thick) fn_thick (EnvOk.cons (x := .pure g_thick18) fn_thick18 (EnvOk.cons (x := .pure g_awake18) fn_awake18 (EnvOk.nil _))))
def F_lawThicks (a0 : TDesign) (a1 : TMaterials) (a2 : ByteArray) (R : T → Prop) : Prop :=
  callK [(false, Sy.bool)]
  (g_light [encV true yDesign a0, T.v (Value.int IntKind.i64 100)]) fun (y0 : Bool) =>
  iteP (!y0)
    (callK [(false, Sy.bool)] (g_awake18 []) fun (y1 : Bool) => R (T.v (Value.bool y1)))
    (iteP (decide (100 < (↑(List.map ySection.enc a1.snd).length : Int)))
      (callK [(false, Sy.bool)] (g_awake18 []) fun (y2 : Bool) => R (T.v (Value.bool y2)))
      (callK [(false, Sy.int IntKind.i64), (false, Sy.bool)]
        (g_thick
          [encV true yDesign a0, encV true yMaterials a1, T.v (Value.string a2)])
        fun (y3 : Int × Bool) =>
        callK [(false, Sy.int IntKind.i64), (false, Sy.bool)]
          (g_thick18
            [encV true yDesign a0, encV true yMaterials a1, T.v (Value.string a2)])
          fun (y4 : Int × Bool) =>
          iteP (decide (y3.fst = y4.fst))
            (iteP (decide (y3.snd = y4.snd))
              (callK [(false, Sy.bool)] (g_awake18 []) fun (y5 : Bool) =>
                R (T.v (Value.bool y5)))
              (R (T.v (Value.bool false))))
            (R (T.v (Value.bool false)))))
theorem F_lawThicks_eq (a0 : TDesign) (a1 : TMaterials) (a2 : ByteArray) (R : T → Prop) : sxTop stdC2 Tryd.prog E_lawThicks H_lawThicks 8 6 [encV true yDesign a0, encV true yMaterials a1, encV false Sy.str a2] R = F_lawThicks a0 a1 a2 R := by kernel_rfl
abbrev s_lawThicks : Sh := [(true, yDesign), (true, yMaterials), (false, Sy.str)]
abbrev r_lawThicks : Sh := [(false, Sy.bool)]
theorem r_lawThicks_call (y : Sh.den r_lawThicks) (K : Sh.den r_lawThicks → Prop) : callK r_lawThicks (some (Sh.enc r_lawThicks y)) K = K y := callK_enc rfl y K

noncomputable def g_lawThicks : List T → Option (T) := gS s_lawThicks sp_lawThicks
theorem g_lawThicks_at {a0} {a1} {a2} : g_lawThicks [encV true yDesign a0, encV true yMaterials a1, T.v (Value.string a2)] = sp_lawThicks (a0, a1, a2) := gS_enc (s := s_lawThicks) rfl (a0, a1, a2) rfl
theorem g_lawThicks_op {u0 u1 u2 u3 u4 u5 u6 u7 u8} : g_lawThicks [T.agg
    [T.v (Value.string u0), T.sl false (List.map yNode.enc u1),
      T.sl false (List.map yPart.enc u2),
      T.sl false (List.map ySeam.enc u3),
      T.sl false (List.map yPackage.enc u4),
      T.sl false (List.map yNeed.enc u5)],
  T.agg [T.sl false (List.map yGrade.enc u6), T.sl false (List.map ySection.enc u7)],
  T.v (Value.string u8)] = sp_lawThicks ((u0, (u1, (u2, (u3, (u4, u5))))), (u6, u7), u8) := gS_enc (s := s_lawThicks) rfl ((u0, (u1, (u2, (u3, (u4, u5))))), (u6, u7), u8) rfl
theorem of_lawThicks (h : ∀ (a0 : TDesign) (a1 : TMaterials) (a2 : ByteArray) (r : T), sp_lawThicks (a0, a1, a2) = some r → BdSh s_lawThicks (a0, a1, a2) → F_lawThicks a0 a1 a2 (fun y => y = r)) : PureFn Tryd.prog 6 g_lawThicks :=
  pureFn_S (E := E_lawThicks) (Hs := H_lawThicks) Eok_lawThicks mixed' plain' (noHeap_of rfl) 8 ⟨_, _, Tryd.func6, rfl⟩ rfl fun x r h1 h2 => by
    obtain ⟨a0, a1, a2⟩ := x
    rw [show Sh.encs s_lawThicks (a0, a1, a2) = [encV true yDesign a0, encV true yMaterials a1, encV false Sy.str a2] from rfl, F_lawThicks_eq]
    exact h a0 a1 a2 r h1 h2

theorem fn_lawThicks : PureFn Tryd.prog 6 g_lawThicks := of_lawThicks fun d m id r h hb => by
  obtain ⟨hok, rfl⟩ := onlyD_of h
  unfold F_lawThicks
  simp only [g_light_at, sp_light, r_light_call, g_awake18_call, g_thick_at, g_thick18_at, sp_thick18, sp_thick, onlyD_ok _ hok, r_thick_call, r_thick18_call, decide_true, iteP]
  cases light d 100 <;> cases decide (100 < ((List.map ySection.enc m.2).length : Int)) <;> trivial
theorem okD_in {d : TDesign} (h : InS yDesign d) : okD d = true := by
  refine List.all_eq_true.2 fun p hp => ?_
  obtain ⟨_, _, ⟨_, _, h3⟩, _⟩ := h
  have h4 := h3 p hp
  obtain ⟨_, _, _, _, _, _, ⟨⟨h5, h6, _⟩, h7, h8, h9⟩, _⟩ := h4
  unfold okPart okShape okLen
  simp only [Bool.and_eq_true, decide_eq_true_eq, List.all_eq_true]
  refine ⟨⟨⟨?_, ?_⟩, ?_, ?_⟩, fun q hq => ?_⟩
  · exact h5
  · exact h6
  · exact h7
  · exact h8
  · obtain ⟨g1, g2, _⟩ := h9 q hq
    exact ⟨g1, g2⟩
end Go.Pv
