/-
  SeamHomes: Home answers as the reference does.
-/
import Derived.Test.YtlpcelingpgmfaaDoorPse
import Derived.Test.YtlpcelingpgmfaaDoorPsi
set_option linter.unusedSimpArgs false
set_option linter.unusedVariables false
set_option maxRecDepth 100000
namespace Go.Pv
open Go Go.Proofs
def sp_lawHomes (x : TDesign × ByteArray) : Option T := onlyD x.1 (.v (.bool true))
set_option maxRecDepth 100000
noncomputable def E_lawHomes : Env := Env.of [(10, .pure g_light), (11, .pure g_home), (12, .pure g_home18), (7, .pure g_awake18)]
def H_lawHomes : FuncId → Hint := fun _ => noHint
theorem Eok_lawHomes : EnvOk Tryd.prog E_lawHomes := EnvOk.cons (x := .pure g_light) fn_light (EnvOk.cons (x := .pure g_home) fn_home (EnvOk.cons (x := .pure g_home18) fn_home18 (EnvOk.cons (x := .pure g_awake18) fn_awake18 (EnvOk.nil _))))
def F_lawHomes (a0 : TDesign) (a1 : ByteArray) (R : T → Prop) : Prop :=
  callK [(false, Sy.bool)]
  (g_light [encV true yDesign a0, T.v (Value.int IntKind.i64 100)]) fun (y0 : Bool) =>
  iteP (!y0)
    (callK [(false, Sy.bool)] (g_awake18 []) fun (y1 : Bool) => R (T.v (Value.bool y1)))
    (callK [(false, Sy.str), (false, Sy.bool)]
      (g_home [encV true yDesign a0, T.v (Value.string a1)]) fun (y2 : ByteArray × Bool) =>
      callK [(false, Sy.str), (false, Sy.bool)]
        (g_home18 [encV true yDesign a0, T.v (Value.string a1)])
        fun (y3 : ByteArray × Bool) =>
        iteP (decide (y2.fst = y3.fst))
          (iteP (decide (y2.snd = y3.snd))
            (callK [(false, Sy.bool)] (g_awake18 []) fun (y4 : Bool) =>
              R (T.v (Value.bool y4)))
            (R (T.v (Value.bool false))))
          (R (T.v (Value.bool false))))
theorem F_lawHomes_eq (a0 : TDesign) (a1 : ByteArray) (R : T → Prop) : sxTop stdC2 Tryd.prog E_lawHomes H_lawHomes 8 4 [encV true yDesign a0, encV false Sy.str a1] R = F_lawHomes a0 a1 R := by kernel_rfl
abbrev s_lawHomes : Sh := [(true, yDesign), (false, Sy.str)]
abbrev r_lawHomes : Sh := [(false, Sy.bool)]
theorem r_lawHomes_call (y : Sh.den r_lawHomes) (K : Sh.den r_lawHomes → Prop) : callK r_lawHomes (some (Sh.enc r_lawHomes y)) K = K y := callK_enc rfl y K

noncomputable def g_lawHomes : List T → Option (T) := gS s_lawHomes sp_lawHomes
theorem g_lawHomes_at {a0} {a1} : g_lawHomes [encV true yDesign a0, T.v (Value.string a1)] = sp_lawHomes (a0, a1) := gS_enc (s := s_lawHomes) rfl (a0, a1) rfl
theorem g_lawHomes_op {u0 u1 u2 u3 u4 u5 u6} : g_lawHomes [T.agg
    [T.v (Value.string u0), T.sl false (List.map yNode.enc u1),
      T.sl false (List.map yPart.enc u2),
      T.sl false (List.map ySeam.enc u3),
      T.sl false (List.map yPackage.enc u4),
      T.sl false (List.map yNeed.enc u5)],
  T.v (Value.string u6)] = sp_lawHomes ((u0, (u1, (u2, (u3, (u4, u5))))), u6) := gS_enc (s := s_lawHomes) rfl ((u0, (u1, (u2, (u3, (u4, u5))))), u6) rfl
theorem of_lawHomes (h : ∀ (a0 : TDesign) (a1 : ByteArray) (r : T), sp_lawHomes (a0, a1) = some r → BdSh s_lawHomes (a0, a1) → F_lawHomes a0 a1 (fun y => y = r)) : PureFn Tryd.prog 4 g_lawHomes :=
  pureFn_S (E := E_lawHomes) (Hs := H_lawHomes) Eok_lawHomes mixed' plain' (noHeap_of rfl) 8 ⟨_, _, Tryd.func4, rfl⟩ rfl fun x r h1 h2 => by
    obtain ⟨a0, a1⟩ := x
    rw [show Sh.encs s_lawHomes (a0, a1) = [encV true yDesign a0, encV false Sy.str a1] from rfl, F_lawHomes_eq]
    exact h a0 a1 r h1 h2

theorem fn_lawHomes : PureFn Tryd.prog 4 g_lawHomes := of_lawHomes fun d id r h hb => by
  obtain ⟨hok, rfl⟩ := onlyD_of h
  unfold F_lawHomes
  simp only [g_light_at, sp_light, r_light_call, g_awake18_call, g_home_at, g_home18_at, sp_home18, sp_home, onlyD_ok _ hok, r_home_call, r_home18_call, decide_true, iteP]
  cases light d 100 <;> trivial
end Go.Pv
