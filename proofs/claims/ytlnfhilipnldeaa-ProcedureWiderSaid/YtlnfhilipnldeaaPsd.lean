/-
  How thick a seam is.
-/
import Derived.Test.YtlnfhilipnldeaaPsp
set_option linter.unusedSimpArgs false
set_option linter.unusedVariables false
set_option maxRecDepth 100000
namespace Go.Pv
open Go Go.Proofs

def secThick (s : TSection) : Int := if 1 < IntKind.i64.wrap (s.2.1.tdiv s.2.2.1) then IntKind.i64.wrap (s.2.1.tdiv s.2.2.1) else 1
/-- The thickness of a part, and whether it has one. -/
def thick0 (d : TDesign) (m : TMaterials) (id : ByteArray) : Int × Bool :=
  match partOf d id with
  | none => (0, false)
  | some p =>
    if pKind p = 1 then (pThick p, true)
    else if pKind p = 2 ∨ pKind p = 3 then
      match secOf m (pSec p) with
      | none => (0, false)
      | some s => if s.2.2.1 < 1 then (0, false) else (secThick s, true)
    else (0, decide (pKind p = 4))
def fitting (d : TDesign) (id : ByteArray) : Bool := match partOf d id with
  | some p => decide (pKind p = 4)
  | none => false
def thick (d : TDesign) (m : TMaterials) (id : ByteArray) : Int × Bool :=
  match seamOf d id with
  | none => (0, false)
  | some s =>
    if (thick0 d m s.2.1).2 = true ∧ (thick0 d m s.2.2.1).2 = true then
      if fitting d s.2.1 = true then ((thick0 d m s.2.2.1).1, true)
      else if fitting d s.2.2.1 = true then ((thick0 d m s.2.1).1, true)
      else (if (thick0 d m s.2.2.1).1 < (thick0 d m s.2.1).1 then (thick0 d m s.2.2.1).1 else (thick0 d m s.2.1).1, true)
    else (0, false)
def sp_thick0 (x : TDesign × TMaterials × ByteArray) : Option T := onlyD x.1 (Sh.enc r_ib (thick0 x.1 x.2.1 x.2.2))
def sp_fitting (x : TDesign × ByteArray) : Option T := onlyD x.1 (Sh.enc r_b (fitting x.1 x.2))
def sp_thick (x : TDesign × TMaterials × ByteArray) : Option T := onlyD x.1 (Sh.enc r_ib (thick x.1 x.2.1 x.2.2))
abbrev sp_thick018 := sp_thick0
abbrev sp_fitting18 := sp_fitting
abbrev sp_thick18 := sp_thick
def light (d : TDesign) (n : Int) : Bool := decide ((d.2.1.length : Int) ≤ n) && decide ((d.2.2.1.length : Int) ≤ n) && decide ((d.2.2.2.1.length : Int) ≤ n)
def sp_light (x : TDesign × Int) : Option T := some (Sh.enc r_b (light x.1 x.2))

set_option maxRecDepth 100000
noncomputable def E_light : Env := Env.of []
def H_light : FuncId → Hint := fun _ => noHint
theorem Eok_light : EnvOk Try.prog E_light := EnvOk.nil _
def F_light (a0 : TDesign) (a1 : Int) (R : T → Prop) : Prop :=
  iteP (decide ((↑(List.map yNode.enc a0.snd.fst).length : Int) ≤ a1))
  (iteP (decide ((↑(List.map yPart.enc a0.snd.snd.fst).length : Int) ≤ a1))
    (R (T.v (Value.bool (decide ((↑(List.map ySeam.enc a0.snd.snd.snd.fst).length : Int) ≤ a1)))))
    (R (T.v (Value.bool false))))
  (R (T.v (Value.bool false)))
theorem F_light_eq (a0 : TDesign) (a1 : Int) (R : T → Prop) : sxTop stdC2 Try.prog E_light H_light 8 4 [encV true yDesign a0, encV false (Sy.int IntKind.i64) a1] R = F_light a0 a1 R := by kernel_rfl
abbrev s_light : Sh := [(true, yDesign), (false, (Sy.int IntKind.i64))]
abbrev r_light : Sh := [(false, Sy.bool)]
theorem r_light_call (y : Sh.den r_light) (K : Sh.den r_light → Prop) : callK r_light (some (Sh.enc r_light y)) K = K y := callK_enc rfl y K

noncomputable def g_light : List T → Option (T) := gS s_light sp_light
theorem g_light_at {a0 : TDesign} {a1 : Int} : g_light [encV true yDesign a0, T.v (Value.int IntKind.i64 a1)] = sp_light (a0, a1) := gS_enc (s := s_light) rfl (a0, a1) rfl
theorem g_light_op {u0 u1 u2 u3 u4 u5 u6} : g_light [T.agg
    [T.v (Value.string u0), T.sl false (List.map yNode.enc u1),
      T.sl false (List.map yPart.enc u2),
      T.sl false (List.map ySeam.enc u3),
      T.sl false (List.map yPackage.enc u4),
      T.sl false (List.map yNeed.enc u5)],
  T.v (Value.int IntKind.i64 u6)] = sp_light ((u0, (u1, (u2, (u3, (u4, u5))))), u6) := gS_enc (s := s_light) rfl ((u0, (u1, (u2, (u3, (u4, u5))))), u6) rfl
theorem of_light (h : ∀ (a0 : TDesign) (a1 : Int) (r : T), sp_light (a0, a1) = some r → BdSh s_light (a0, a1) → F_light a0 a1 (fun y => y = r)) : PureFn Try.prog 4 g_light :=
  pureFn_S (E := E_light) (Hs := H_light) Eok_light mixed' plain' (noHeap_of rfl) 8 ⟨_, _, Try.func4, rfl⟩ rfl fun x r h1 h2 => by
    obtain ⟨a0, a1⟩ := x
    rw [show Sh.encs s_light (a0, a1) = [encV true yDesign a0, encV false (Sy.int IntKind.i64) a1] from rfl, F_light_eq]
    exact h a0 a1 r h1 h2

theorem fn_light : PureFn Try.prog 4 g_light := of_light fun d n r h hb => by
  cases h
  unfold F_light
  simp only [List.length_map, iteP_def, Sh.enc, encV, Sy.enc, hdT, light]
  by_cases h1 : (d.2.1.length : Int) ≤ n <;> by_cases h2 : (d.2.2.1.length : Int) ≤ n <;> simp [h1, h2]
set_option maxRecDepth 100000
noncomputable def E_thick0 : Env := Env.of [(15, .pure g_partD), (30, .pure g_section)]
def H_thick0 : FuncId → Hint := fun _ => noHint
theorem Eok_thick0 : EnvOk Try.prog E_thick0 := EnvOk.cons (x := .pure g_partD) fn_partD (EnvOk.cons (x := .pure g_section) fn_section (EnvOk.nil _))
def F_thick0 (a0 : TDesign) (a1 : TMaterials) (a2 : ByteArray) (R : T → Prop) : Prop :=
  callK [(true, yPart), (false, Sy.bool)]
  (g_partD [encV true yDesign a0, T.v (Value.string a2)]) fun (y0 : TPart × Bool) =>
  iteP (!y0.snd) (R (T.tup [T.v (Value.int IntKind.i64 0), T.v (Value.bool false)]))
    (iteP (decide (y0.fst.snd.snd.fst = 1))
      (R
        (T.tup
          [T.v (Value.int IntKind.i64 y0.fst.snd.snd.snd.snd.snd.fst), T.v (Value.bool true)]))
      (iteP (decide (y0.fst.snd.snd.fst = 2))
        (callK [(true, ySection), (false, Sy.bool)]
          (g_section
            [encV true yMaterials a1, T.v (Value.string y0.fst.snd.snd.snd.snd.snd.snd.snd.fst)])
          fun (y1 : TSection × Bool) =>
          iteP (!y1.snd)
            (R (T.tup [T.v (Value.int IntKind.i64 0), T.v (Value.bool false)]))
            (iteP (decide (y1.fst.snd.snd.fst < 1))
              (R (T.tup [T.v (Value.int IntKind.i64 0), T.v (Value.bool false)]))
              (reqK (!decide (y1.fst.snd.snd.fst = 0))
                (R
                  (T.tup
                    [T.v
                        (Value.int IntKind.i64
                          (if 1 < IntKind.i64.wrap (Int.tdiv y1.fst.snd.fst y1.fst.snd.snd.fst) then
                            IntKind.i64.wrap (Int.tdiv y1.fst.snd.fst y1.fst.snd.snd.fst)
                          else 1)),
                      T.v (Value.bool true)])))))
        (iteP (decide (y0.fst.snd.snd.fst = 3))
          (callK [(true, ySection), (false, Sy.bool)]
            (g_section
              [encV true yMaterials a1, T.v (Value.string y0.fst.snd.snd.snd.snd.snd.snd.snd.fst)])
            fun (y2 : TSection × Bool) =>
            iteP (!y2.snd)
              (R (T.tup [T.v (Value.int IntKind.i64 0), T.v (Value.bool false)]))
              (iteP (decide (y2.fst.snd.snd.fst < 1))
                (R (T.tup [T.v (Value.int IntKind.i64 0), T.v (Value.bool false)]))
                (reqK (!decide (y2.fst.snd.snd.fst = 0))
                  (R
                    (T.tup
                      [T.v
                          (Value.int IntKind.i64
                            (if 1 < IntKind.i64.wrap (Int.tdiv y2.fst.snd.fst y2.fst.snd.snd.fst) then
                              IntKind.i64.wrap (Int.tdiv y2.fst.snd.fst y2.fst.snd.snd.fst)
                            else 1)),
                        T.v (Value.bool true)])))))
          (R
            (T.tup
              [T.v (Value.int IntKind.i64 0),
                T.v (Value.bool (decide (y0.fst.snd.snd.fst = 4)))])))))
theorem F_thick0_eq (a0 : TDesign) (a1 : TMaterials) (a2 : ByteArray) (R : T → Prop) : sxTop stdC2 Try.prog E_thick0 H_thick0 8 24 [encV true yDesign a0, encV true yMaterials a1, encV false Sy.str a2] R = F_thick0 a0 a1 a2 R := by kernel_rfl
abbrev s_thick0 : Sh := [(true, yDesign), (true, yMaterials), (false, Sy.str)]
abbrev r_thick0 : Sh := [(false, Sy.int IntKind.i64), (false, Sy.bool)]
theorem r_thick0_call (y : Sh.den r_thick0) (K : Sh.den r_thick0 → Prop) : callK r_thick0 (some (Sh.enc r_thick0 y)) K = K y := callK_enc rfl y K

noncomputable def g_thick0 : List T → Option (T) := gS s_thick0 sp_thick0
theorem g_thick0_at {a0 : TDesign} {a1 : TMaterials} {a2 : ByteArray} : g_thick0 [encV true yDesign a0, encV true yMaterials a1, T.v (Value.string a2)] = sp_thick0 (a0, a1, a2) := gS_enc (s := s_thick0) rfl (a0, a1, a2) rfl
theorem g_thick0_op {u0 u1 u2 u3 u4 u5 u6 u7 u8} : g_thick0 [T.agg
    [T.v (Value.string u0), T.sl false (List.map yNode.enc u1),
      T.sl false (List.map yPart.enc u2),
      T.sl false (List.map ySeam.enc u3),
      T.sl false (List.map yPackage.enc u4),
      T.sl false (List.map yNeed.enc u5)],
  T.agg [T.sl false (List.map yGrade.enc u6), T.sl false (List.map ySection.enc u7)],
  T.v (Value.string u8)] = sp_thick0 ((u0, (u1, (u2, (u3, (u4, u5))))), (u6, u7), u8) := gS_enc (s := s_thick0) rfl ((u0, (u1, (u2, (u3, (u4, u5))))), (u6, u7), u8) rfl
theorem of_thick0 (h : ∀ (a0 : TDesign) (a1 : TMaterials) (a2 : ByteArray) (r : T), sp_thick0 (a0, a1, a2) = some r → BdSh s_thick0 (a0, a1, a2) → F_thick0 a0 a1 a2 (fun y => y = r)) : PureFn Try.prog 24 g_thick0 :=
  pureFn_S (E := E_thick0) (Hs := H_thick0) Eok_thick0 mixed' plain' (noHeap_of rfl) 8 ⟨_, _, Try.func24, rfl⟩ rfl fun x r h1 h2 => by
    obtain ⟨a0, a1, a2⟩ := x
    rw [show Sh.encs s_thick0 (a0, a1, a2) = [encV true yDesign a0, encV true yMaterials a1, encV false Sy.str a2] from rfl, F_thick0_eq]
    exact h a0 a1 a2 r h1 h2

theorem fn_thick0 : PureFn Try.prog 24 g_thick0 := of_thick0 fun d m id r h hb => by
  obtain ⟨hok, rfl⟩ := onlyD_of h
  unfold F_thick0
  simp only [g_partD_at, sp_partD, sp_part, hok, r_partD_call, g_section_at, sp_section, r_section_call]
  cases hp : partOf d id with
  | none => simp [found, iteP_def, thick0, pKind, pThick, hp, Sh.enc, Sh.encs, encV, Sy.enc, hdT]
  | some p =>
    by_cases c1 : p.2.2.1 = 1
    · simp [found, iteP_def, thick0, pKind, pThick, hp, Sh.enc, Sh.encs, encV, Sy.enc, hdT, c1]
    cases hs : secOf m (pSec p) with
    | none => by_cases c2 : p.2.2.1 = 2 <;> by_cases c3 : p.2.2.1 = 3 <;> simp [found, iteP_def, thick0, pKind, pThick, hp, hs, Sh.enc, Sh.encs, encV, Sy.enc, hdT, c1, c2, c3] <;> rfl
    | some s =>
      by_cases ch : s.2.2.1 < 1
      · by_cases c2 : p.2.2.1 = 2 <;> by_cases c3 : p.2.2.1 = 3 <;> simp [found, iteP_def, thick0, pKind, pThick, hp, hs, Sh.enc, Sh.encs, encV, Sy.enc, hdT, c1, c2, c3, ch] <;> rfl
      · have h0 : ¬ s.2.2.1 = 0 := by omega
        by_cases c2 : p.2.2.1 = 2 <;> by_cases c3 : p.2.2.1 = 3 <;> simp [found, iteP_def, thick0, pKind, pThick, hp, hs, Sh.enc, Sh.encs, encV, Sy.enc, hdT, c1, c2, c3, ch, h0, reqK, secThick] <;> rfl
set_option maxRecDepth 100000
noncomputable def E_fitting : Env := Env.of [(15, .pure g_partD)]
def H_fitting : FuncId → Hint := fun _ => noHint
theorem Eok_fitting : EnvOk Try.prog E_fitting := EnvOk.cons (x := .pure g_partD) fn_partD (EnvOk.nil _)
def F_fitting (a0 : TDesign) (a1 : ByteArray) (R : T → Prop) : Prop :=
  callK [(true, yPart), (false, Sy.bool)]
  (g_partD [encV true yDesign a0, T.v (Value.string a1)]) fun (y0 : TPart × Bool) =>
  R (T.v (Value.bool (decide (y0.fst.snd.snd.fst = 4))))
theorem F_fitting_eq (a0 : TDesign) (a1 : ByteArray) (R : T → Prop) : sxTop stdC2 Try.prog E_fitting H_fitting 8 25 [encV true yDesign a0, encV false Sy.str a1] R = F_fitting a0 a1 R := by kernel_rfl
abbrev s_fitting : Sh := [(true, yDesign), (false, Sy.str)]
abbrev r_fitting : Sh := [(false, Sy.bool)]
theorem r_fitting_call (y : Sh.den r_fitting) (K : Sh.den r_fitting → Prop) : callK r_fitting (some (Sh.enc r_fitting y)) K = K y := callK_enc rfl y K

noncomputable def g_fitting : List T → Option (T) := gS s_fitting sp_fitting
theorem g_fitting_at {a0 : TDesign} {a1 : ByteArray} : g_fitting [encV true yDesign a0, T.v (Value.string a1)] = sp_fitting (a0, a1) := gS_enc (s := s_fitting) rfl (a0, a1) rfl
theorem g_fitting_op {u0 u1 u2 u3 u4 u5 u6} : g_fitting [T.agg
    [T.v (Value.string u0), T.sl false (List.map yNode.enc u1),
      T.sl false (List.map yPart.enc u2),
      T.sl false (List.map ySeam.enc u3),
      T.sl false (List.map yPackage.enc u4),
      T.sl false (List.map yNeed.enc u5)],
  T.v (Value.string u6)] = sp_fitting ((u0, (u1, (u2, (u3, (u4, u5))))), u6) := gS_enc (s := s_fitting) rfl ((u0, (u1, (u2, (u3, (u4, u5))))), u6) rfl
theorem of_fitting (h : ∀ (a0 : TDesign) (a1 : ByteArray) (r : T), sp_fitting (a0, a1) = some r → BdSh s_fitting (a0, a1) → F_fitting a0 a1 (fun y => y = r)) : PureFn Try.prog 25 g_fitting :=
  pureFn_S (E := E_fitting) (Hs := H_fitting) Eok_fitting mixed' plain' (noHeap_of rfl) 8 ⟨_, _, Try.func25, rfl⟩ rfl fun x r h1 h2 => by
    obtain ⟨a0, a1⟩ := x
    rw [show Sh.encs s_fitting (a0, a1) = [encV true yDesign a0, encV false Sy.str a1] from rfl, F_fitting_eq]
    exact h a0 a1 r h1 h2

theorem fn_fitting : PureFn Try.prog 25 g_fitting := of_fitting fun d id r h hb => by
  obtain ⟨hok, rfl⟩ := onlyD_of h
  unfold F_fitting
  simp only [g_partD_at, sp_partD, hok, r_partD_call, sp_part]
  cases hp : partOf d id <;> simp [found, fitting, hp, noPart, Sh.enc, encV, Sy.enc, hdT] <;> rfl
set_option maxRecDepth 100000
noncomputable def E_thick : Env := Env.of [(13, .pure g_seam), (24, .pure g_thick0), (25, .pure g_fitting)]
def H_thick : FuncId → Hint := fun _ => noHint
theorem Eok_thick : EnvOk Try.prog E_thick := EnvOk.cons (x := .pure g_seam) fn_seam (EnvOk.cons (x := .pure g_thick0) fn_thick0 (EnvOk.cons (x := .pure g_fitting) fn_fitting (EnvOk.nil _)))
def F_thick (a0 : TDesign) (a1 : TMaterials) (a2 : ByteArray) (R : T → Prop) : Prop :=
  callK [(true, ySeam), (false, Sy.bool)]
  (g_seam [encV true yDesign a0, T.v (Value.string a2)]) fun (y0 : TSeam × Bool) =>
  iteP (!y0.snd) (R (T.tup [T.v (Value.int IntKind.i64 0), T.v (Value.bool false)]))
    (callK [(false, Sy.int IntKind.i64), (false, Sy.bool)]
      (g_thick0
        [encV true yDesign a0, encV true yMaterials a1,
          T.v (Value.string y0.fst.snd.fst)])
      fun (y1 : Int × Bool) =>
      callK [(false, Sy.int IntKind.i64), (false, Sy.bool)]
        (g_thick0
          [encV true yDesign a0, encV true yMaterials a1,
            T.v (Value.string y0.fst.snd.snd.fst)])
        fun (y2 : Int × Bool) =>
        iteP (!y1.snd)
          (R (T.tup [T.v (Value.int IntKind.i64 0), T.v (Value.bool false)]))
          (iteP (!y2.snd)
            (R (T.tup [T.v (Value.int IntKind.i64 0), T.v (Value.bool false)]))
            (callK [(false, Sy.bool)]
              (g_fitting [encV true yDesign a0, T.v (Value.string y0.fst.snd.fst)])
              fun (y3 : Bool) =>
              iteP y3
                (R (T.tup [T.v (Value.int IntKind.i64 y2.fst), T.v (Value.bool true)]))
                (callK [(false, Sy.bool)]
                  (g_fitting [encV true yDesign a0, T.v (Value.string y0.fst.snd.snd.fst)])
                  fun (y4 : Bool) =>
                  iteP y4
                    (R (T.tup [T.v (Value.int IntKind.i64 y1.fst), T.v (Value.bool true)]))
                    (R
                      (T.tup
                        [T.v (Value.int IntKind.i64 (if y2.fst < y1.fst then y2.fst else y1.fst)),
                          T.v (Value.bool true)]))))))
theorem F_thick_eq (a0 : TDesign) (a1 : TMaterials) (a2 : ByteArray) (R : T → Prop) : sxTop stdC2 Try.prog E_thick H_thick 8 14 [encV true yDesign a0, encV true yMaterials a1, encV false Sy.str a2] R = F_thick a0 a1 a2 R := by kernel_rfl
abbrev s_thick : Sh := [(true, yDesign), (true, yMaterials), (false, Sy.str)]
abbrev r_thick : Sh := [(false, Sy.int IntKind.i64), (false, Sy.bool)]
theorem r_thick_call (y : Sh.den r_thick) (K : Sh.den r_thick → Prop) : callK r_thick (some (Sh.enc r_thick y)) K = K y := callK_enc rfl y K

noncomputable def g_thick : List T → Option (T) := gS s_thick sp_thick
theorem g_thick_at {a0 : TDesign} {a1 : TMaterials} {a2 : ByteArray} : g_thick [encV true yDesign a0, encV true yMaterials a1, T.v (Value.string a2)] = sp_thick (a0, a1, a2) := gS_enc (s := s_thick) rfl (a0, a1, a2) rfl
theorem g_thick_op {u0 u1 u2 u3 u4 u5 u6 u7 u8} : g_thick [T.agg
    [T.v (Value.string u0), T.sl false (List.map yNode.enc u1),
      T.sl false (List.map yPart.enc u2),
      T.sl false (List.map ySeam.enc u3),
      T.sl false (List.map yPackage.enc u4),
      T.sl false (List.map yNeed.enc u5)],
  T.agg [T.sl false (List.map yGrade.enc u6), T.sl false (List.map ySection.enc u7)],
  T.v (Value.string u8)] = sp_thick ((u0, (u1, (u2, (u3, (u4, u5))))), (u6, u7), u8) := gS_enc (s := s_thick) rfl ((u0, (u1, (u2, (u3, (u4, u5))))), (u6, u7), u8) rfl
theorem of_thick (h : ∀ (a0 : TDesign) (a1 : TMaterials) (a2 : ByteArray) (r : T), sp_thick (a0, a1, a2) = some r → BdSh s_thick (a0, a1, a2) → F_thick a0 a1 a2 (fun y => y = r)) : PureFn Try.prog 14 g_thick :=
  pureFn_S (E := E_thick) (Hs := H_thick) Eok_thick mixed' plain' (noHeap_of rfl) 8 ⟨_, _, Try.func14, rfl⟩ rfl fun x r h1 h2 => by
    obtain ⟨a0, a1, a2⟩ := x
    rw [show Sh.encs s_thick (a0, a1, a2) = [encV true yDesign a0, encV true yMaterials a1, encV false Sy.str a2] from rfl, F_thick_eq]
    exact h a0 a1 a2 r h1 h2

theorem fn_thick : PureFn Try.prog 14 g_thick := of_thick fun d m id r h hb => by
  obtain ⟨hok, rfl⟩ := onlyD_of h
  unfold F_thick
  simp only [g_seam_at, sp_seam, r_seam_call, g_thick0_at, sp_thick0, onlyD_ok _ hok, r_thick0_call, g_fitting_at, sp_fitting, r_fitting_call]
  cases hs : seamOf d id with
  | none => simp [found, iteP_def, thick, hs, Sh.enc, Sh.encs, encV, Sy.enc, hdT]
  | some s =>
    simp only [found, thick, hs]
    cases h1 : (thick0 d m s.2.1).2 <;> cases h2 : (thick0 d m s.2.2.1).2 <;> cases h3 : fitting d s.2.1 <;> cases h4 : fitting d s.2.2.1 <;> simp [iteP_def, Sh.enc, Sh.encs, encV, Sy.enc, hdT] <;> rfl
end Go.Pv
