/-
  StructureBlocks: the law.
-/
import Derived.Test.YtlobonckhdilaaaGreatDoorPqd
set_option linter.unusedSimpArgs false
set_option linter.unusedVariables false
set_option maxRecDepth 100000
namespace Go.Pv
open Go Go.Proofs
def sp_lawBlocks (x : TDesign × ByteArray) : Option T := onlyDK x.1 (.v (.bool true))
set_option maxRecDepth 100000
noncomputable def E_lawBlocks : Env := Env.of [(7, .pure g_few), (9, .pure g_block), (10, .pure g_block17), (11, .pure g_sameS), (12, .pure g_path0), (13, .pure g_path017), (14, .pure g_parts), (15, .pure g_parts17), (16, .pure g_blocks), (17, .pure g_blocks17), (8, .pure g_awake17)]
def H_lawBlocks : FuncId → Hint := fun _ => noHint
theorem Eok_lawBlocks : EnvOk Tryz.prog E_lawBlocks := EnvOk.cons (x := .pure g_few) fn_few (EnvOk.cons (x := .pure g_block) fn_block (EnvOk.cons (x := .pure g_block17) fn_block17 (EnvOk.cons (x := .pure g_sameS) fn_sameS (EnvOk.cons (x := .pure g_path0) fn_path0 (EnvOk.cons (x := .pure g_path017) fn_path017 (EnvOk.cons (x := .pure g_parts) fn_parts (EnvOk.cons (x := .pure g_parts17) fn_parts17 (EnvOk.cons (x := .pure g_blocks) fn_blocks (EnvOk.cons (x := .pure g_blocks17) fn_blocks17 (EnvOk.cons (x := .pure g_awake17) fn_awake17 (EnvOk.nil _)))))))))))
def F_lawBlocks (a0 : TDesign) (a1 : ByteArray) (R : T → Prop) : Prop :=
  callK [(false, Sy.bool)]
  (g_few [encV true yDesign a0, T.v (Value.int IntKind.i64 80)]) fun (y0 : Bool) =>
  iteP (!y0)
    (callK [(false, Sy.bool)] (g_awake17 []) fun (y1 : Bool) => R (T.v (Value.bool y1)))
    (callK [(false, Sy.str), (false, Sy.bool)]
      (g_block [encV true yDesign a0, T.v (Value.string a1)]) fun (y2 : ByteArray × Bool) =>
      callK [(false, Sy.str), (false, Sy.bool)]
        (g_block17 [encV true yDesign a0, T.v (Value.string a1)])
        fun (y3 : ByteArray × Bool) =>
        iteP (decide (y2.fst = y3.fst))
          (iteP (decide (y2.snd = y3.snd))
            (callK [(false, Sy.str.li)]
              (g_path0 [encV true yDesign a0, T.v (Value.string a1)])
              fun (y4 : List ByteArray) =>
              callK [(false, Sy.str.li)]
                (g_path017 [encV true yDesign a0, T.v (Value.string a1)])
                fun (y5 : List ByteArray) =>
                callK [(false, Sy.bool)]
                  (g_sameS
                    [T.sl false (List.map Sy.str.enc y4), T.sl false (List.map Sy.str.enc y5)])
                  fun (y6 : Bool) =>
                  iteP y6
                    (callK [(false, Sy.str.li)]
                      (g_parts [encV true yDesign a0, T.v (Value.string a1)])
                      fun (y7 : List ByteArray) =>
                      callK [(false, Sy.str.li)]
                        (g_parts17 [encV true yDesign a0, T.v (Value.string a1)])
                        fun (y8 : List ByteArray) =>
                        callK [(false, Sy.bool)]
                          (g_sameS
                            [T.sl false (List.map Sy.str.enc y7),
                              T.sl false (List.map Sy.str.enc y8)])
                          fun (y9 : Bool) =>
                          iteP y9
                            (callK [(false, Sy.str.li)] (g_blocks [encV true yDesign a0])
                              fun (y10 : List ByteArray) =>
                              callK [(false, Sy.str.li)]
                                (g_blocks17 [encV true yDesign a0]) fun (y11 : List ByteArray) =>
                                callK [(false, Sy.bool)]
                                  (g_sameS
                                    [T.sl false (List.map Sy.str.enc y10),
                                      T.sl false (List.map Sy.str.enc y11)])
                                  fun (y12 : Bool) =>
                                  iteP y12
                                    (callK [(false, Sy.bool)] (g_awake17 []) fun (y13 : Bool) =>
                                      R (T.v (Value.bool y13)))
                                    (R (T.v (Value.bool false))))
                            (R (T.v (Value.bool false))))
                    (R (T.v (Value.bool false))))
            (R (T.v (Value.bool false))))
          (R (T.v (Value.bool false))))
theorem F_lawBlocks_eq (a0 : TDesign) (a1 : ByteArray) (R : T → Prop) : sxTop stdC2 Tryz.prog E_lawBlocks H_lawBlocks 8 3 [encV true yDesign a0, encV false Sy.str a1] R = F_lawBlocks a0 a1 R := by kernel_rfl
abbrev s_lawBlocks : Sh := [(true, yDesign), (false, Sy.str)]
abbrev r_lawBlocks : Sh := [(false, Sy.bool)]
theorem r_lawBlocks_call (y : Sh.den r_lawBlocks) (K : Sh.den r_lawBlocks → Prop) : callK r_lawBlocks (some (Sh.enc r_lawBlocks y)) K = K y := callK_enc rfl y K

noncomputable def g_lawBlocks : List T → Option (T) := gS s_lawBlocks sp_lawBlocks
theorem g_lawBlocks_at {a0 : TDesign} {a1 : ByteArray} : g_lawBlocks [encV true yDesign a0, T.v (Value.string a1)] = sp_lawBlocks (a0, a1) := gS_enc (s := s_lawBlocks) rfl (a0, a1) rfl
theorem g_lawBlocks_op {u0 u1 u2 u3 u4 u5 u6} : g_lawBlocks [T.agg
    [T.v (Value.string u0), T.sl false (List.map yNode.enc u1),
      T.sl false (List.map yPart.enc u2),
      T.sl false (List.map ySeam.enc u3),
      T.sl false (List.map yPackage.enc u4),
      T.sl false (List.map yNeed.enc u5)],
  T.v (Value.string u6)] = sp_lawBlocks ((u0, (u1, (u2, (u3, (u4, u5))))), u6) := gS_enc (s := s_lawBlocks) rfl ((u0, (u1, (u2, (u3, (u4, u5))))), u6) rfl
theorem of_lawBlocks (h : ∀ (a0 : TDesign) (a1 : ByteArray) (r : T), sp_lawBlocks (a0, a1) = some r → BdSh s_lawBlocks (a0, a1) → F_lawBlocks a0 a1 (fun y => y = r)) : PureFn Tryz.prog 3 g_lawBlocks :=
  pureFn_S (E := E_lawBlocks) (Hs := H_lawBlocks) Eok_lawBlocks mixed' plain' (noHeap_of rfl) 8 ⟨_, _, Tryz.func3, rfl⟩ rfl fun x r h1 h2 => by
    obtain ⟨a0, a1⟩ := x
    rw [show Sh.encs s_lawBlocks (a0, a1) = [encV true yDesign a0, encV false Sy.str a1] from rfl, F_lawBlocks_eq]
    exact h a0 a1 r h1 h2

theorem fn_lawBlocks : PureFn Tryz.prog 3 g_lawBlocks := of_lawBlocks fun d id r h hb => by
  obtain ⟨hok, hok2, rfl⟩ := onlyDK_of h
  unfold F_lawBlocks
  refine callK_some (s := r_b) (y := few d 80) g_few_at ?_
  cases hf : few d 80 with
  | false => rw [Bool.not_false, iteP_t, g_awake17_call]
  | true =>
    have hs := small_few hf (by omega)
    have u := @g_sameS_at
    rw [Bool.not_true, iteP_f]
    simp only [g_block_at, sp_block, g_block17_at, sp_block17, g_path0_at, sp_path0, g_path017_at, sp_path017, g_parts_at, sp_parts, g_parts17_at, sp_parts17, g_blocks_at, sp_blocks, g_blocks17_at, sp_blocks17, onlyS_ok _ hok hok2 hs, onlyD_ok _ hok, r_block_call, r_block17_call, r_ls_call17, u, sp_sameS, r_b_call, g_awake17_call, eqB_self, decide_true, iteP_t]
end Go.Pv
