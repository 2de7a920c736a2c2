/-
  procedure: Fits, For.
-/
import Derived.Test.YtlnfhilipnldeaaPsd
import Derived.Test.YtlnfhilipnldeaaPco
import Derived.Test.YtlnfhilipnldeaaPkp
set_option linter.unusedSimpArgs false
set_option linter.unusedVariables false
set_option maxRecDepth 100000
namespace Go.Pv
open Go Go.Proofs
def lackE (p : TProcedure) (g : ByteArray) : Int := if hasS p.2.2.2.2.1 g = true then 0 else 23
def fitsE (p : TProcedure) (k t : Int) (l : List ByteArray) : Int :=
  if k = p.2.1 then if p.2.2.1 ≤ t then if t ≤ p.2.2.2.1 then firstE (lackE p) l else 9 else 9 else 10
set_option maxRecDepth 100000
noncomputable def E_pfits : Env := Env.of [(23, .pure g_contains)]
def H_pfits : FuncId → Hint := fun f => match f == 11 with | true => ⟨fun r => match r == 6 with | true => .inv [.val 24 false (.int .i64)] | false => .none, fun _ _ => none, fun _ => none⟩ | false => noHint
theorem Eok_pfits : EnvOk Try.prog E_pfits := EnvOk.cons (x := .pure g_contains) fn_contains (EnvOk.nil _)
def F_pfits (a0 : TProcedure) (a1 : Int) (a2 : Int) (a3 : List ByteArray) (R : T → Prop) : Prop :=
  iteP (!decide (a1 = a0.snd.fst)) (R (T.v (Value.int IntKind.i64 10)))
  (iteP (decide (a0.snd.snd.fst ≤ a2))
    (iteP (!decide (a2 ≤ a0.snd.snd.snd.fst)) (R (T.v (Value.int IntKind.i64 9)))
      (loopK (Int × PUnit)
        (fun (X0 : Int × PUnit → Prop) (s1 : Int × PUnit) =>
          iteP (decide (s1.fst < (↑(List.map Sy.str.enc a3).length : Int)))
            (rowsK Sy.str (List.map Sy.str.enc a3) s1.fst fun (y2 : ByteArray) =>
              callK [(false, Sy.bool)]
                (g_contains
                  [T.sl false (List.map Sy.str.enc a0.snd.snd.snd.snd.fst), T.v (Value.string y2)])
                fun (y3 : Bool) =>
                iteP (!y3) (R (T.v (Value.int IntKind.i64 23)))
                  (X0 (IntKind.i64.wrap (s1.fst + 1), ())))
            (R (T.v (Value.int IntKind.i64 0))))
        (0, ())))
    (R (T.v (Value.int IntKind.i64 9))))
theorem F_pfits_eq (a0 : TProcedure) (a1 : Int) (a2 : Int) (a3 : List ByteArray) (R : T → Prop) : sxTop stdC2 Try.prog E_pfits H_pfits 8 11 [encV true yProcedure a0, encV false (Sy.int IntKind.i64) a1,
  encV false (Sy.int IntKind.i64) a2, encV false Sy.str.li a3] R = F_pfits a0 a1 a2 a3 R := by kernel_rfl
abbrev s_pfits : Sh := [(true, yProcedure), (false, (Sy.int IntKind.i64)), (false, (Sy.int IntKind.i64)), (false, Sy.str.li)]
abbrev r_pfits : Sh := [(false, Sy.int IntKind.i64)]
theorem r_pfits_call (y : Sh.den r_pfits) (K : Sh.den r_pfits → Prop) : callK r_pfits (some (Sh.enc r_pfits y)) K = K y := callK_enc rfl y K

def sp_pfits (x : TProcedure × Int × Int × List ByteArray) : Option T := some (T.v (Value.int .i64 (fitsE x.1 x.2.1 x.2.2.1 x.2.2.2)))
noncomputable def g_pfits : List T → Option (T) := gS s_pfits sp_pfits
theorem g_pfits_at {a0 : TProcedure} {a1 : Int} {a2 : Int} {a3 : List ByteArray} : g_pfits [encV true yProcedure a0, T.v (Value.int IntKind.i64 a1),
  T.v (Value.int IntKind.i64 a2), T.sl false (List.map Sy.str.enc a3)] = sp_pfits (a0, a1, a2, a3) := gS_enc (s := s_pfits) rfl (a0, a1, a2, a3) rfl
theorem g_pfits_op {u0 u1 u2 u3 u4 u5 u6 u7 u8} : g_pfits [T.agg
    [T.v (Value.string u0), T.v (Value.int IntKind.i64 u1),
      T.v (Value.int IntKind.i64 u2),
      T.v (Value.int IntKind.i64 u3),
      T.sl false (List.map Sy.str.enc u4),
      T.v (Value.int IntKind.i64 u5)],
  T.v (Value.int IntKind.i64 u6), T.v (Value.int IntKind.i64 u7),
  T.sl false (List.map Sy.str.enc u8)] = sp_pfits ((u0, (u1, (u2, (u3, (u4, u5))))), u6, u7, u8) := gS_enc (s := s_pfits) rfl ((u0, (u1, (u2, (u3, (u4, u5))))), u6, u7, u8) rfl
theorem of_pfits (h : ∀ (a0 : TProcedure) (a1 : Int) (a2 : Int) (a3 : List ByteArray) (r : T), sp_pfits (a0, a1, a2, a3) = some r → BdSh s_pfits (a0, a1, a2, a3) → F_pfits a0 a1 a2 a3 (fun y => y = r)) : PureFn Try.prog 11 g_pfits :=
  pureFn_S (E := E_pfits) (Hs := H_pfits) Eok_pfits mixed' plain' (noHeap_of rfl) 8 ⟨_, _, Try.func11, rfl⟩ rfl fun x r h1 h2 => by
    obtain ⟨a0, a1, a2, a3⟩ := x
    rw [show Sh.encs s_pfits (a0, a1, a2, a3) = [encV true yProcedure a0, encV false (Sy.int IntKind.i64) a1,
  encV false (Sy.int IntKind.i64) a2, encV false Sy.str.li a3] from rfl, F_pfits_eq]
    exact h a0 a1 a2 a3 r h1 h2

theorem fn_pfits : PureFn Try.prog 11 g_pfits := of_pfits fun p k t l r h hb => by
  have hl : l.length ≤ 2 ^ 47 := hb.2.2.2.1
  cases h
  unfold F_pfits
  have is : ∀ {n : Int}, fitsE p k t l = n → T.v (Value.int .i64 n) = T.v (Value.int .i64 (fitsE p k t l)) := fun h => by rw [h]
  refine ifQ (fun h => is (by unfold fitsE; rw [if_neg h])) fun hk => ?_
  refine ifP (fun h1 => ?_) fun h1 => is (by unfold fitsE; rw [if_pos hk, if_neg h1])
  refine ifQ (fun h => is (by unfold fitsE; rw [if_pos hk, if_pos h1, if_neg h])) fun h2 => ?_
  have w : fitsE p k t l = firstE (lackE p) l := by unfold fitsE; rw [if_pos hk, if_pos h1, if_pos h2]
  refine first_loop (r := .str) (lackE p) hl (fun X s y hy h1 h2 => ?_) fun h => is (w.trans h)
  refine callK_some (s := [(false, .bool)]) (y := hasS p.2.2.2.2.1 y) (g_contains_at ..) ?_
  refine ifNB (fun h => ?_) fun h => h1 (by unfold lackE; rw [if_pos h])
  have e : lackE p y = 23 := by unfold lackE; rw [if_neg (by rw [h]; decide)]
  exact is ((w.trans (h2 (by omega))).trans e)
noncomputable def g_pfitsD : List T → Option T := gD g_pfits
theorem fn_pfitsD : PureFn Try.prog 11 g_pfitsD := fn_pfits.deep
theorem pfitsD_call {p : TProcedure} {k t : Int} {l : List ByteArray} {L : T} (hL : T.deep 4 L = T.sl false (List.map Sy.str.enc l)) : g_pfitsD [encV true yProcedure p, T.v (Value.int .i64 k), T.v (Value.int .i64 t), L] = some (Sh.enc [(false, .int .i64)] (fitsE p k t l)) := by
  unfold g_pfitsD gD
  show g_pfits [T.deep 4 (encV true yProcedure p), T.v (Value.int .i64 k), T.v (Value.int .i64 t), T.deep 4 L] = _
  rw [show T.deep 4 (encV true yProcedure p) = encV true yProcedure p from deep_encV 3 (r := yProcedure) p rfl rfl, hL]
  exact g_pfits_at ..
set_option maxRecDepth 100000
noncomputable def E_pfor : Env := Env.of [(13, .pure g_seam), (14, .pure g_thick), (15, .pure g_partD), (11, .pure g_pfitsD)]
def H_pfor : FuncId → Hint := fun f => match f == 6 with | true => ⟨fun r => match r == 9 with | true => .unroll 4 | false => .none, fun _ _ => none, fun _ => none⟩ | false => noHint
theorem Eok_pfor : EnvOk Try.prog E_pfor := EnvOk.cons (x := .pure g_seam) fn_seam (EnvOk.cons (x := .pure g_thick) fn_thick (EnvOk.cons (x := .pure g_partD) fn_partD (EnvOk.cons (x := .pure g_pfitsD) fn_pfitsD (EnvOk.nil _))))
def F_pfor (a0 : TProcedure) (a1 : TDesign) (a2 : TMaterials) (a3 : ByteArray) (R : T → Prop) : Prop :=
  callK [(true, ySeam), (false, Sy.bool)]
  (g_seam [encV true yDesign a1, T.v (Value.string a3)]) fun (y0 : TSeam × Bool) =>
  iteP (!y0.snd) (R (T.v (Value.int IntKind.i64 8)))
    (callK [(false, Sy.int IntKind.i64), (false, Sy.bool)]
      (g_thick
        [encV true yDesign a1, encV true yMaterials a2, T.v (Value.string a3)])
      fun (y1 : Int × Bool) =>
      iteP (!y1.snd) (R (T.v (Value.int IntKind.i64 8)))
        (callK [(true, yPart), (false, Sy.bool)]
          (g_partD [encV true yDesign a1, T.v (Value.string y0.fst.snd.fst)])
          fun (y2 : TPart × Bool) =>
          iteP (!decide (y2.fst.snd.snd.fst = 4))
            (reqK true
              (callK [(true, yPart), (false, Sy.bool)]
                (g_partD [encV true yDesign a1, T.v (Value.string y0.fst.snd.snd.fst)])
                fun (y3 : TPart × Bool) =>
                iteP (!decide (y3.fst.snd.snd.fst = 4))
                  (reqK true
                    (callK [(false, Sy.int IntKind.i64)]
                      (g_pfitsD
                        [encV true yProcedure a0,
                          T.v (Value.int IntKind.i64 y0.fst.snd.snd.snd.fst),
                          T.v (Value.int IntKind.i64 y1.fst),
                          T.sl false
                            [[T.v (Value.string y2.fst.snd.snd.snd.snd.fst)],
                              [T.v (Value.string y3.fst.snd.snd.snd.snd.fst)]]])
                      fun (y4 : Int) => R (T.v (Value.int IntKind.i64 y4))))
                  (callK [(false, Sy.int IntKind.i64)]
                    (g_pfitsD
                      [encV true yProcedure a0,
                        T.v (Value.int IntKind.i64 y0.fst.snd.snd.snd.fst),
                        T.v (Value.int IntKind.i64 y1.fst),
                        T.sl false [[T.v (Value.string y2.fst.snd.snd.snd.snd.fst)]]])
                    fun (y5 : Int) => R (T.v (Value.int IntKind.i64 y5)))))
            (callK [(true, yPart), (false, Sy.bool)]
              (g_partD [encV true yDesign a1, T.v (Value.string y0.fst.snd.snd.fst)])
              fun (y6 : TPart × Bool) =>
              iteP (!decide (y6.fst.snd.snd.fst = 4))
                (reqK true
                  (callK [(false, Sy.int IntKind.i64)]
                    (g_pfitsD
                      [encV true yProcedure a0,
                        T.v (Value.int IntKind.i64 y0.fst.snd.snd.snd.fst),
                        T.v (Value.int IntKind.i64 y1.fst),
                        T.sl false [[T.v (Value.string y6.fst.snd.snd.snd.snd.fst)]]])
                    fun (y7 : Int) => R (T.v (Value.int IntKind.i64 y7))))
                (callK [(false, Sy.int IntKind.i64)]
                  (g_pfitsD
                    [encV true yProcedure a0,
                      T.v (Value.int IntKind.i64 y0.fst.snd.snd.snd.fst),
                      T.v (Value.int IntKind.i64 a0.snd.snd.fst), T.v (Value.slice none 0 0)])
                  fun (y8 : Int) => R (T.v (Value.int IntKind.i64 y8))))))
theorem F_pfor_eq (a0 : TProcedure) (a1 : TDesign) (a2 : TMaterials) (a3 : ByteArray) (R : T → Prop) : sxTop stdC2 Try.prog E_pfor H_pfor 8 6 [encV true yProcedure a0, encV true yDesign a1, encV true yMaterials a2,
  encV false Sy.str a3] R = F_pfor a0 a1 a2 a3 R := by kernel_rfl
abbrev s_pfor : Sh := [(true, yProcedure), (true, yDesign), (true, yMaterials), (false, Sy.str)]
abbrev r_pfor : Sh := [(false, Sy.int IntKind.i64)]
theorem r_pfor_call (y : Sh.den r_pfor) (K : Sh.den r_pfor → Prop) : callK r_pfor (some (Sh.enc r_pfor y)) K = K y := callK_enc rfl y K

def gradeL (p : TPart) : List ByteArray := if p.2.2.1 = 4 then [] else [p.2.2.2.2.1]
def gradesL (d : TDesign) (s : TSeam) : List ByteArray := gradeL (found noPart (partOf d s.2.1)).1 ++ gradeL (found noPart (partOf d s.2.2.1)).1
def forE (p : TProcedure) (d : TDesign) (m : TMaterials) (id : ByteArray) : Int := match seamOf d id with
  | none => 8
  | some s => if (thick d m id).2 = true then fitsE p s.2.2.2.1 (if gradesL d s = [] then p.2.2.1 else (thick d m id).1) (gradesL d s) else 8
def sp_pfor (x : TProcedure × TDesign × TMaterials × ByteArray) : Option T := onlyD x.2.1 (T.v (Value.int .i64 (forE x.1 x.2.1 x.2.2.1 x.2.2.2)))
noncomputable def g_pfor : List T → Option (T) := gS s_pfor sp_pfor
theorem g_pfor_at {a0 : TProcedure} {a1 : TDesign} {a2 : TMaterials} {a3 : ByteArray} : g_pfor [encV true yProcedure a0, encV true yDesign a1, encV true yMaterials a2,
  T.v (Value.string a3)] = sp_pfor (a0, a1, a2, a3) := gS_enc (s := s_pfor) rfl (a0, a1, a2, a3) rfl
theorem g_pfor_op {u0 u1 u2 u3 u4 u5 u6 u7 u8 u9 u10 u11 u12 u13 u14} : g_pfor [T.agg
    [T.v (Value.string u0), T.v (Value.int IntKind.i64 u1),
      T.v (Value.int IntKind.i64 u2),
      T.v (Value.int IntKind.i64 u3),
      T.sl false (List.map Sy.str.enc u4),
      T.v (Value.int IntKind.i64 u5)],
  T.agg
    [T.v (Value.string u6), T.sl false (List.map yNode.enc u7),
      T.sl false (List.map yPart.enc u8),
      T.sl false (List.map ySeam.enc u9),
      T.sl false (List.map yPackage.enc u10),
      T.sl false (List.map yNeed.enc u11)],
  T.agg [T.sl false (List.map yGrade.enc u12), T.sl false (List.map ySection.enc u13)],
  T.v (Value.string u14)] = sp_pfor ((u0, (u1, (u2, (u3, (u4, u5))))), (u6, (u7, (u8, (u9, (u10, u11))))), (u12, u13), u14) := gS_enc (s := s_pfor) rfl ((u0, (u1, (u2, (u3, (u4, u5))))), (u6, (u7, (u8, (u9, (u10, u11))))), (u12, u13), u14) rfl
theorem of_pfor (h : ∀ (a0 : TProcedure) (a1 : TDesign) (a2 : TMaterials) (a3 : ByteArray) (r : T), sp_pfor (a0, a1, a2, a3) = some r → BdSh s_pfor (a0, a1, a2, a3) → F_pfor a0 a1 a2 a3 (fun y => y = r)) : PureFn Try.prog 6 g_pfor :=
  pureFn_S (E := E_pfor) (Hs := H_pfor) Eok_pfor mixed' plain' (noHeap_of rfl) 8 ⟨_, _, Try.func6, rfl⟩ rfl fun x r h1 h2 => by
    obtain ⟨a0, a1, a2, a3⟩ := x
    rw [show Sh.encs s_pfor (a0, a1, a2, a3) = [encV true yProcedure a0, encV true yDesign a1, encV true yMaterials a2,
  encV false Sy.str a3] from rfl, F_pfor_eq]
    exact h a0 a1 a2 a3 r h1 h2

theorem fn_pfor : PureFn Try.prog 6 g_pfor := of_pfor fun p d m id r h hb => by
  obtain ⟨hok, rfl⟩ := onlyD_of h
  replace hok : okD d = true := hok
  clear h
  have is : ∀ {n : Int}, forE p d m id = n → T.v (Value.int .i64 n) = T.v (Value.int .i64 (forE p d m id)) := fun h => by rw [h]
  unfold F_pfor
  refine callK_some (s := [(true, ySeam), (false, .bool)]) (y := found noSeam (seamOf d id)) (g_seam_at ..) ?_
  cases hs : seamOf d id with
  | none =>
    show iteP true _ _
    rw [iteP_t]
    exact is (by unfold forE; rw [hs])
  | some s =>
    show iteP false _ _
    rw [iteP_f]
    refine callK_some (s := [(false, .int .i64), (false, .bool)]) (y := thick d m id) ((g_thick_at ..).trans (onlyD_ok _ hok)) ?_
    have part : ∀ x, g_partD [encV true yDesign d, T.v (Value.string x)] = some (Sh.enc [(true, yPart), (false, .bool)] (found noPart (partOf d x))) := fun x => (g_partD_at ..).trans (by unfold sp_partD; dsimp only; rw [hok]; rfl)
    refine ifNB (fun ht => is (by unfold forE; rw [hs]; dsimp only; rw [if_neg (by rw [ht]; decide)])) fun ht => ?_
    have w : forE p d m id = fitsE p s.2.2.2.1 (if gradesL d s = [] then p.2.2.1 else (thick d m id).1) (gradesL d s) := by unfold forE; rw [hs]; dsimp only; rw [if_pos ht]
    dsimp only [found]
    refine callK_some (s := [(true, yPart), (false, .bool)]) (part s.2.1) ?_
    unfold gradesL at w
    generalize (found noPart (partOf d s.2.1)) = pa at w ⊢
    have tail : ∀ {l : List ByteArray} {L : T} {t : Int}, gradeL pa.1 ++ gradeL (found noPart (partOf d s.2.2.1)).1 = l → T.deep 4 L = T.sl false (List.map Sy.str.enc l) → (if l = [] then p.2.2.1 else (thick d m id).1) = t → callK [(false, Sy.int IntKind.i64)]
      (g_pfitsD [encV true yProcedure p, T.v (Value.int IntKind.i64 s.2.2.2.1), T.v (Value.int IntKind.i64 t), L]) fun (y4 : Int) => T.v (Value.int IntKind.i64 y4) = T.v (Value.int .i64 (forE p d m id)) := by
      intro l L t h1 h2 h3
      refine callK_some (s := [(false, .int .i64)]) (pfitsD_call h2) (is ?_)
      rw [w, h1, h3]
    refine ifQ (fun ka => ?_) fun ka => ?_
    · refine ⟨rfl, ?_⟩
      refine callK_some (s := [(true, yPart), (false, .bool)]) (part s.2.2.1) ?_
      generalize (found noPart (partOf d s.2.2.1)) = pb at *
      refine ifQ (fun kb => ⟨rfl, tail (l := [_, _]) (by unfold gradeL; rw [if_neg ka, if_neg kb]; rfl) rfl rfl⟩) fun kb => tail (l := [_]) (by unfold gradeL; rw [if_neg ka, if_pos kb]; rfl) rfl rfl
    · refine callK_some (s := [(true, yPart), (false, .bool)]) (part s.2.2.1) ?_
      generalize (found noPart (partOf d s.2.2.1)) = pb at *
      refine ifQ (fun kb => ⟨rfl, tail (l := [_]) (by unfold gradeL; rw [if_pos ka, if_neg kb]; rfl) rfl rfl⟩) fun kb => tail (l := []) (by unfold gradeL; rw [if_pos ka, if_pos kb]; rfl) rfl rfl
noncomputable def g_pforD : List T → Option T := gD g_pfor
theorem fn_pforD : PureFn Try.prog 6 g_pforD := fn_pfor.deep
theorem pforD_call {p : TProcedure} {d : TDesign} {m : TMaterials} {id : ByteArray} (hok : okD d = true) {P : T} (hP : T.deep 4 P = encV true yProcedure p) : g_pforD [P, encV true yDesign d, encV true yMaterials m, T.v (Value.string id)] = some (Sh.enc [(false, .int .i64)] (forE p d m id)) := by
  unfold g_pforD gD
  show g_pfor [T.deep 4 P, T.deep 4 (encV true yDesign d), T.deep 4 (encV true yMaterials m), T.v (Value.string id)] = _
  rw [hP, deep_encV 3 (r := yDesign) d rfl rfl, deep_encV 3 (r := yMaterials) m rfl rfl]
  exact (g_pfor_at ..).trans (onlyD_ok _ hok)
theorem deep_strs (n : Nat) (l : List ByteArray) : (List.map Sy.str.enc l).map (fun r => r.map (T.deep n)) = List.map Sy.str.enc l := by
  rw [List.map_map]
  exact List.map_congr_left fun x _ => deep_enc n (r := .str) x rfl
end Go.Pv
