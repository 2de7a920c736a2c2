/-
  SeamLists: Shop, Erection and Touches answer as the reference does.
-/
import Derived.Test.YtlpcelingpgmfaaDoorPse
import Derived.Test.YtlpcelingpgmfaaDoorPsy
set_option linter.unusedSimpArgs false
set_option linter.unusedVariables false
set_option maxRecDepth 100000
namespace Go.Pv
open Go Go.Proofs
def sp_lawLists (x : TDesign × ByteArray) : Option T := onlyD x.1 (.v (.bool true))
set_option maxRecDepth 100000
noncomputable def E_lawLists : Env := Env.of [(10, .pure g_light), (13, .pure g_same), (14, .pure g_shop), (15, .pure g_shop18), (16, .pure g_erection), (17, .pure g_erection18), (18, .pure g_touches), (19, .pure g_touches18), (7, .pure g_awake18)]
def H_lawLists : FuncId → Hint := fun _ => noHint
theorem Eok_lawLists : EnvOk Tryd.prog E_lawLists := EnvOk.cons (x := .pure g_light) fn_light (EnvOk.cons (x := .pure g_same) fn_same (EnvOk.cons (x := .pure g_shop) fn_shop (EnvOk.cons (x := .pure g_shop18) fn_shop18 (EnvOk.cons (x := .pure g_erection) fn_erection (EnvOk.cons (x := .pure g_erection18) fn_erection18 (EnvOk.cons (x := .pure g_touches) fn_touches (EnvOk.cons (x := .pure g_touches18) fn_touches18 (EnvOk.cons (x := .pure g_awake18) fn_awake18 (EnvOk.nil _)))))))))
def F_lawLists (a0 : TDesign) (a1 : ByteArray) (R : T → Prop) : Prop :=
  callK [(false, Sy.bool)]
  (g_light [encV true yDesign a0, T.v (Value.int IntKind.i64 100)]) fun (y0 : Bool) =>
  iteP (!y0)
    (callK [(false, Sy.bool)] (g_awake18 []) fun (y1 : Bool) => R (T.v (Value.bool y1)))
    (callK [(false, Sy.str.li)]
      (g_shop [encV true yDesign a0, T.v (Value.string a1)]) fun (y2 : List ByteArray) =>
      callK [(false, Sy.str.li)]
        (g_shop18 [encV true yDesign a0, T.v (Value.string a1)]) fun (y3 : List ByteArray) =>
        callK [(false, Sy.bool)]
          (g_same
            [T.sl false (List.map Sy.str.enc y2), T.sl false (List.map Sy.str.enc y3)])
          fun (y4 : Bool) =>
          iteP y4
            (callK [(false, Sy.str.li)]
              (g_erection [encV true yDesign a0, T.v (Value.string a1)])
              fun (y5 : List ByteArray) =>
              callK [(false, Sy.str.li)]
                (g_erection18 [encV true yDesign a0, T.v (Value.string a1)])
                fun (y6 : List ByteArray) =>
                callK [(false, Sy.bool)]
                  (g_same
                    [T.sl false (List.map Sy.str.enc y5), T.sl false (List.map Sy.str.enc y6)])
                  fun (y7 : Bool) =>
                  iteP y7
                    (callK [(false, Sy.str.li)]
                      (g_touches [encV true yDesign a0, T.v (Value.string a1)])
                      fun (y8 : List ByteArray) =>
                      callK [(false, Sy.str.li)]
                        (g_touches18 [encV true yDesign a0, T.v (Value.string a1)])
                        fun (y9 : List ByteArray) =>
                        callK [(false, Sy.bool)]
                          (g_same
                            [T.sl false (List.map Sy.str.enc y8),
                              T.sl false (List.map Sy.str.enc y9)])
                          fun (y10 : Bool) =>
                          iteP y10
                            (callK [(false, Sy.bool)] (g_awake18 []) fun (y11 : Bool) =>
                              R (T.v (Value.bool y11)))
                            (R (T.v (Value.bool false))))
                    (R (T.v (Value.bool false))))
            (R (T.v (Value.bool false))))
theorem F_lawLists_eq (a0 : TDesign) (a1 : ByteArray) (R : T → Prop) : sxTop stdC2 Tryd.prog E_lawLists H_lawLists 8 5 [encV true yDesign a0, encV false Sy.str a1] R = F_lawLists a0 a1 R := by kernel_rfl
abbrev s_lawLists : Sh := [(true, yDesign), (false, Sy.str)]
abbrev r_lawLists : Sh := [(false, Sy.bool)]
theorem r_lawLists_call (y : Sh.den r_lawLists) (K : Sh.den r_lawLists → Prop) : callK r_lawLists (some (Sh.enc r_lawLists y)) K = K y := callK_enc rfl y K

noncomputable def g_lawLists : List T → Option (T) := gS s_lawLists sp_lawLists
theorem g_lawLists_at {a0} {a1} : g_lawLists [encV true yDesign a0, T.v (Value.string a1)] = sp_lawLists (a0, a1) := gS_enc (s := s_lawLists) rfl (a0, a1) rfl
theorem g_lawLists_op {u0 u1 u2 u3 u4 u5 u6} : g_lawLists [T.agg
    [T.v (Value.string u0), T.sl false (List.map yNode.enc u1),
      T.sl false (List.map yPart.enc u2),
      T.sl false (List.map ySeam.enc u3),
      T.sl false (List.map yPackage.enc u4),
      T.sl false (List.map yNeed.enc u5)],
  T.v (Value.string u6)] = sp_lawLists ((u0, (u1, (u2, (u3, (u4, u5))))), u6) := gS_enc (s := s_lawLists) rfl ((u0, (u1, (u2, (u3, (u4, u5))))), u6) rfl
theorem of_lawLists (h : ∀ (a0 : TDesign) (a1 : ByteArray) (r : T), sp_lawLists (a0, a1) = some r → BdSh s_lawLists (a0, a1) → F_lawLists a0 a1 (fun y => y = r)) : PureFn Tryd.prog 5 g_lawLists :=
  pureFn_S (E := E_lawLists) (Hs := H_lawLists) Eok_lawLists mixed' plain' (noHeap_of rfl) 8 ⟨_, _, Tryd.func5, rfl⟩ rfl fun x r h1 h2 => by
    obtain ⟨a0, a1⟩ := x
    rw [show Sh.encs s_lawLists (a0, a1) = [encV true yDesign a0, encV false Sy.str a1] from rfl, F_lawLists_eq]
    exact h a0 a1 r h1 h2

theorem fn_lawLists : PureFn Tryd.prog 5 g_lawLists := of_lawLists fun d id r h hb => by
  obtain ⟨hok, rfl⟩ := onlyD_of h
  unfold F_lawLists
  simp only [g_light_at, sp_light, r_light_call, g_awake18_call]
  cases hl : light d 100 with
  | false => simp only [Bool.not_false, iteP_t]
  | true =>
    simp only [Bool.not_true, iteP_f]
    have hsame : ∀ l : List ByteArray, g_same [T.sl false (List.map Sy.str.enc l), T.sl false (List.map Sy.str.enc l)] = some (Sh.enc r_b true) := fun l => by
      rw [show g_same [T.sl false (List.map Sy.str.enc l), T.sl false (List.map Sy.str.enc l)] = sp_same (l, l) from g_same_at]
      simp [sp_same]
    simp only [g_shop_at, g_shop18_at, g_erection_at, g_erection18_at, g_touches_at, g_touches18_at, sp_shop18, sp_erection18, sp_touches18, sp_shop, sp_erection, sp_touches, onlyL_ok _ hok hl, r_ls_call, hsame, r_same_call, iteP_t]
end Go.Pv
