/-
  The paths of a seam's two parts, and what they share.
-/
import Derived.Test.YtlpcelingpgmfaaDoorPsg
set_option linter.unusedSimpArgs false
set_option linter.unusedVariables false
set_option maxRecDepth 100000
namespace Go.Pv
open Go Go.Proofs

/-- What two paths share at their heads. -/
def comm : List ByteArray → List ByteArray → List ByteArray
  | x :: a, y :: b => if x = y then x :: comm a b else []
  | _, _ => []
def placedB (a b : List ByteArray) : Bool := decide (0 < a.length) && decide (0 < b.length)
abbrev r_lslsb : Sh := [(false, .li .str), (false, .li .str), (false, .bool)]
abbrev r_lslb : Sh := [(false, .li .str), (false, .bool)]
def sp_common (x : List ByteArray × List ByteArray) : Option T := some (Sh.enc r_ls (comm x.1 x.2))
def way (d : TDesign) (s : TSeam) : List ByteArray := comm (pathOf d s.2.1) (pathOf d s.2.2.1)
def placed (d : TDesign) (s : TSeam) : Bool := placedB (pathOf d s.2.1) (pathOf d s.2.2.1)
def sp_common18 (x : TDesign × TSeam) : Option T := onlyD x.1 (Sh.enc r_lsb (way x.1 x.2, placed x.1 x.2))
def sp_ways (x : TDesign × TSeam) : Option T := onlyD x.1 (Sh.enc r_lslsb (pathOf x.1 x.2.2.1, pathOf x.1 x.2.2.2.1, placed x.1 x.2))
def last (l : List ByteArray) : ByteArray := l.getLastD ⟨#[]⟩
def home (d : TDesign) (id : ByteArray) : ByteArray × Bool := match seamOf d id with
  | some s => (last (way d s), placed d s)
  | none => (⟨#[]⟩, false)
abbrev r_sb : Sh := [(false, .str), (false, .bool)]
def sp_home (x : TDesign × ByteArray) : Option T := onlyD x.1 (Sh.enc r_sb (home x.1 x.2))
abbrev sp_home18 := sp_home
theorem comm_left : ∀ {a b : List ByteArray}, (comm a b).length ≤ a.length ∧ (comm a b).length ≤ b.length
  | [], b => by simp [comm]
  | x :: a, [] => by simp [comm]
  | x :: a, y :: b => by
    simp only [comm]
    have := comm_left (a := a) (b := b)
    split <;> simp <;> omega
theorem comm_placed {a b : List ByteArray} (h : placedB a b = false) : comm a b = [] := by
  cases a with
  | nil => simp [comm]
  | cons x a => cases b with
    | nil => simp [comm]
    | cons y b => simp [placedB] at h
theorem comm_step {a b : List ByteArray} {k : Nat} (h : comm a b = a.take k ++ comm (a.drop k) (b.drop k)) :
    (∀ (ha : k < a.length) (hb : k < b.length), a[k] = b[k] → comm a b = a.take (k + 1) ++ comm (a.drop (k + 1)) (b.drop (k + 1))) ∧
    (∀ (ha : k < a.length) (hb : k < b.length), a[k] ≠ b[k] → comm a b = a.take k) ∧ (¬ (k < a.length ∧ k < b.length) → comm a b = a.take k) := by
  refine ⟨fun ha hb e => ?_, fun ha hb e => ?_, fun hn => ?_⟩
  · rw [h, List.drop_eq_getElem_cons ha, List.drop_eq_getElem_cons hb, comm, if_pos e, List.take_succ_eq_append_getElem ha, List.append_assoc]; rfl
  · rw [h, List.drop_eq_getElem_cons ha, List.drop_eq_getElem_cons hb, comm, if_neg e, List.append_nil]
  · rw [h]
    by_cases ha : k < a.length
    · rw [List.drop_eq_nil_of_le (show b.length ≤ k by omega)]
      cases a.drop k <;> simp [comm]
    · rw [List.drop_eq_nil_of_le (show a.length ≤ k by omega)]
      simp [comm]
theorem path0_len (d : TDesign) (id : ByteArray) : (path0 d id).length ≤ 65 := by
  unfold path0
  cases nodeOf d id with
  | some x => simpa using up_len d id
  | none => cases partOf d id with
    | none => simp
    | some p => simpa using up_len d (pNode p)
theorem pathOf_len (d : TDesign) (id : ByteArray) : (pathOf d id).length ≤ 65 := by
  unfold pathOf; cases partOf d id with
  | none => simp
  | some p => exact path0_len d (pNode p)
theorem iteP_yes {p : Prop} {i : Decidable p} (h : p) {A B : Prop} (ha : A) : iteP (@decide p i) A B := by rw [show @decide p i = true from decide_eq_true h]; exact ha
theorem iteP_no {p : Prop} {i : Decidable p} (h : ¬ p) {A B : Prop} (hb : B) : iteP (@decide p i) A B := by rw [show @decide p i = false from decide_eq_false h]; exact hb
theorem okHead_str (l : List ByteArray) : okHead 1 (List.map Sy.str.enc l) = true := by cases l <;> rfl
theorem r_ls_call (y : List ByteArray) (K : List ByteArray → Prop) : callK r_ls (some (Sh.enc r_ls y)) K = K y := callK_enc (s := r_ls) rfl y K
theorem r_lsb_call (y : List ByteArray × Bool) (K : List ByteArray × Bool → Prop) : callK r_lsb (some (Sh.enc r_lsb y)) K = K y := callK_enc (s := r_lsb) rfl y K
set_option maxRecDepth 100000
noncomputable def E_path18 : Env := Env.of [(47, .pure g_part17), (48, .pure g_path017)]
def H_path18 : FuncId → Hint := fun _ => noHint
theorem Eok_path18 : EnvOk Tryd.prog E_path18 := EnvOk.cons (x := .pure g_part17) fn_part17 (EnvOk.cons (x := .pure g_path017) fn_path017 (EnvOk.nil _))
def F_path18 (a0 : TDesign) (a1 : ByteArray) (R : T → Prop) : Prop :=
  callK [(true, yPart), (false, Sy.bool)]
  (g_part17 [encV true yDesign a0, T.v (Value.string a1)]) fun (y0 : TPart × Bool) =>
  iteP (!y0.snd) (R (T.sl false []))
    (callK [(false, Sy.str.li)]
      (g_path017 [encV true yDesign a0, T.v (Value.string y0.fst.snd.snd.snd.fst)])
      fun (y1 : List ByteArray) => R (T.sl false (List.map Sy.str.enc y1)))
theorem F_path18_eq (a0 : TDesign) (a1 : ByteArray) (R : T → Prop) : sxTop stdC2 Tryd.prog E_path18 H_path18 8 34 [encV true yDesign a0, encV false Sy.str a1] R = F_path18 a0 a1 R := by kernel_rfl
abbrev s_path18 : Sh := [(true, yDesign), (false, Sy.str)]
abbrev r_path18 : Sh := [(false, Sy.str.li)]
theorem r_path18_call (y : Sh.den r_path18) (K : Sh.den r_path18 → Prop) : callK r_path18 (some (Sh.enc r_path18 y)) K = K y := callK_enc rfl y K

noncomputable def g_path18 : List T → Option (T) := gS s_path18 sp_path18
theorem g_path18_at {a0} {a1} : g_path18 [encV true yDesign a0, T.v (Value.string a1)] = sp_path18 (a0, a1) := gS_enc (s := s_path18) rfl (a0, a1) rfl
theorem g_path18_op {u0 u1 u2 u3 u4 u5 u6} : g_path18 [T.agg
    [T.v (Value.string u0), T.sl false (List.map yNode.enc u1),
      T.sl false (List.map yPart.enc u2),
      T.sl false (List.map ySeam.enc u3),
      T.sl false (List.map yPackage.enc u4),
      T.sl false (List.map yNeed.enc u5)],
  T.v (Value.string u6)] = sp_path18 ((u0, (u1, (u2, (u3, (u4, u5))))), u6) := gS_enc (s := s_path18) rfl ((u0, (u1, (u2, (u3, (u4, u5))))), u6) rfl
theorem of_path18 (h : ∀ (a0 : TDesign) (a1 : ByteArray) (r : T), sp_path18 (a0, a1) = some r → BdSh s_path18 (a0, a1) → F_path18 a0 a1 (fun y => y = r)) : PureFn Tryd.prog 34 g_path18 :=
  pureFn_S (E := E_path18) (Hs := H_path18) Eok_path18 mixed' plain' (noHeap_of rfl) 8 ⟨_, _, Tryd.func34, rfl⟩ rfl fun x r h1 h2 => by
    obtain ⟨a0, a1⟩ := x
    rw [show Sh.encs s_path18 (a0, a1) = [encV true yDesign a0, encV false Sy.str a1] from rfl, F_path18_eq]
    exact h a0 a1 r h1 h2

theorem fn_path18 : PureFn Tryd.prog 34 g_path18 := of_path18 fun d id r h hb => by
  have h' : onlyD d (Sh.enc r_ls (pathOf d id)) = some r := h
  obtain ⟨hok, rfl⟩ := onlyD_of h'
  unfold F_path18
  simp only [g_part17_at, sp_part17, sp_part, r_part17_call, g_path017_at, sp_path017, sp_path0, onlyD_ok _ hok, r_path017_call]
  cases hp : partOf d id <;> simp [found, pathOf, hp, iteP_t, iteP_f, Sh.enc, encV, Sy.enc, hdT]
set_option maxRecDepth 100000
noncomputable def E_path : Env := Env.of [(49, .pure g_partD), (55, .pure g_path0)]
def H_path : FuncId → Hint := fun _ => noHint
theorem Eok_path : EnvOk Tryd.prog E_path := EnvOk.cons (x := .pure g_partD) fn_partD (EnvOk.cons (x := .pure g_path0) fn_path0 (EnvOk.nil _))
def F_path (a0 : TDesign) (a1 : ByteArray) (R : T → Prop) : Prop :=
  callK [(true, yPart), (false, Sy.bool)]
  (g_partD [encV true yDesign a0, T.v (Value.string a1)]) fun (y0 : TPart × Bool) =>
  iteP (!y0.snd) (R (T.sl false []))
    (callK [(false, Sy.str.li)]
      (g_path0 [encV true yDesign a0, T.v (Value.string y0.fst.snd.snd.snd.fst)])
      fun (y1 : List ByteArray) => R (T.sl false (List.map Sy.str.enc y1)))
theorem F_path_eq (a0 : TDesign) (a1 : ByteArray) (R : T → Prop) : sxTop stdC2 Tryd.prog E_path H_path 8 44 [encV true yDesign a0, encV false Sy.str a1] R = F_path a0 a1 R := by kernel_rfl
abbrev s_path : Sh := [(true, yDesign), (false, Sy.str)]
abbrev r_path : Sh := [(false, Sy.str.li)]
theorem r_path_call (y : Sh.den r_path) (K : Sh.den r_path → Prop) : callK r_path (some (Sh.enc r_path y)) K = K y := callK_enc rfl y K

noncomputable def g_path : List T → Option (T) := gS s_path sp_path
theorem g_path_at {a0} {a1} : g_path [encV true yDesign a0, T.v (Value.string a1)] = sp_path (a0, a1) := gS_enc (s := s_path) rfl (a0, a1) rfl
theorem g_path_op {u0 u1 u2 u3 u4 u5 u6} : g_path [T.agg
    [T.v (Value.string u0), T.sl false (List.map yNode.enc u1),
      T.sl false (List.map yPart.enc u2),
      T.sl false (List.map ySeam.enc u3),
      T.sl false (List.map yPackage.enc u4),
      T.sl false (List.map yNeed.enc u5)],
  T.v (Value.string u6)] = sp_path ((u0, (u1, (u2, (u3, (u4, u5))))), u6) := gS_enc (s := s_path) rfl ((u0, (u1, (u2, (u3, (u4, u5))))), u6) rfl
theorem of_path (h : ∀ (a0 : TDesign) (a1 : ByteArray) (r : T), sp_path (a0, a1) = some r → BdSh s_path (a0, a1) → F_path a0 a1 (fun y => y = r)) : PureFn Tryd.prog 44 g_path :=
  pureFn_S (E := E_path) (Hs := H_path) Eok_path mixed' plain' (noHeap_of rfl) 8 ⟨_, _, Tryd.func44, rfl⟩ rfl fun x r h1 h2 => by
    obtain ⟨a0, a1⟩ := x
    rw [show Sh.encs s_path (a0, a1) = [encV true yDesign a0, encV false Sy.str a1] from rfl, F_path_eq]
    exact h a0 a1 r h1 h2

theorem fn_path : PureFn Tryd.prog 44 g_path := of_path fun d id r h hb => by
  have h' : onlyD d (Sh.enc r_ls (pathOf d id)) = some r := h
  obtain ⟨hok, rfl⟩ := onlyD_of h'
  unfold F_path
  simp only [g_partD_at, sp_partD, sp_part, hok, r_partD_call, g_path0_at, sp_path0, onlyD_ok _ hok, r_path0_call]
  cases hp : partOf d id <;> simp [found, pathOf, hp, iteP_t, iteP_f, Sh.enc, encV, Sy.enc, hdT]
set_option maxRecDepth 100000
noncomputable def E_common : Env := Env.of []
def H_common : FuncId → Hint := fun f => match f == 27 with | true => ⟨fun r => match r == 2 with | true => .inv [.val 5 false (.int .i64)] | false => .none, fun _ _ => none, fun _ => none⟩ | false => noHint
theorem Eok_common : EnvOk Tryd.prog E_common := EnvOk.nil _
def F_common (a0 : List ByteArray) (a1 : List ByteArray) (R : T → Prop) : Prop :=
  loopK (Int × PUnit)
  (fun (X0 : Int × PUnit → Prop) (s1 : Int × PUnit) =>
    iteP (decide (s1.fst < (↑(List.map Sy.str.enc a0).length : Int)))
      (iteP (decide (s1.fst < (↑(List.map Sy.str.enc a1).length : Int)))
        (rowsK Sy.str (List.map Sy.str.enc a0) s1.fst fun (y2 : ByteArray) =>
          rowsK Sy.str (List.map Sy.str.enc a1) s1.fst fun (y3 : ByteArray) =>
            iteP (decide (y2 = y3)) (X0 (IntKind.i64.wrap (s1.fst + 1), ()))
              (reqK
                (okHead 1 (List.map Sy.str.enc a0) &&
                    (decide (0 ≤ s1.fst) && decide (Int.toNat s1.fst ≤ (List.map Sy.str.enc a0).length)) &&
                  true)
                (R (T.sl false (List.drop 0 (List.take (Int.toNat s1.fst) (List.map Sy.str.enc a0)))))))
        (reqK
          (okHead 1 (List.map Sy.str.enc a0) &&
              (decide (0 ≤ s1.fst) && decide (Int.toNat s1.fst ≤ (List.map Sy.str.enc a0).length)) &&
            true)
          (R (T.sl false (List.drop 0 (List.take (Int.toNat s1.fst) (List.map Sy.str.enc a0)))))))
      (reqK
        (okHead 1 (List.map Sy.str.enc a0) &&
            (decide (0 ≤ s1.fst) && decide (Int.toNat s1.fst ≤ (List.map Sy.str.enc a0).length)) &&
          true)
        (R (T.sl false (List.drop 0 (List.take (Int.toNat s1.fst) (List.map Sy.str.enc a0)))))))
  (0, ())
theorem F_common_eq (a0 : List ByteArray) (a1 : List ByteArray) (R : T → Prop) : sxTop stdC2 Tryd.prog E_common H_common 8 27 [encV false Sy.str.li a0, encV false Sy.str.li a1] R = F_common a0 a1 R := by kernel_rfl
abbrev s_common : Sh := [(false, Sy.str.li), (false, Sy.str.li)]
abbrev r_common : Sh := [(false, Sy.str.li)]
theorem r_common_call (y : Sh.den r_common) (K : Sh.den r_common → Prop) : callK r_common (some (Sh.enc r_common y)) K = K y := callK_enc rfl y K

noncomputable def g_common : List T → Option (T) := gS s_common sp_common
theorem g_common_at {a0} {a1} : g_common [T.sl false (List.map Sy.str.enc a0), T.sl false (List.map Sy.str.enc a1)] = sp_common (a0, a1) := gS_enc (s := s_common) rfl (a0, a1) rfl
theorem g_common_op {u0 u1} : g_common [T.sl false (List.map Sy.str.enc u0), T.sl false (List.map Sy.str.enc u1)] = sp_common (u0, u1) := gS_enc (s := s_common) rfl (u0, u1) rfl
theorem of_common (h : ∀ (a0 : List ByteArray) (a1 : List ByteArray) (r : T), sp_common (a0, a1) = some r → BdSh s_common (a0, a1) → F_common a0 a1 (fun y => y = r)) : PureFn Tryd.prog 27 g_common :=
  pureFn_S (E := E_common) (Hs := H_common) Eok_common mixed' plain' (noHeap_of rfl) 8 ⟨_, _, Tryd.func27, rfl⟩ rfl fun x r h1 h2 => by
    obtain ⟨a0, a1⟩ := x
    rw [show Sh.encs s_common (a0, a1) = [encV false Sy.str.li a0, encV false Sy.str.li a1] from rfl, F_common_eq]
    exact h a0 a1 r h1 h2

theorem fn_common : PureFn Tryd.prog 27 g_common := of_common fun a b r h hb => by
  have h' : some (Sh.enc r_ls (comm a b)) = some r := h
  cases h'
  clear h
  have hla : a.length ≤ 2 ^ 47 := hb.1.1
  unfold F_common
  refine loopK_ix a.length (fun k s => s = ((k : Int), ()) ∧ k ≤ a.length ∧ comm a b = a.take k ++ comm (a.drop k) (b.drop k)) ⟨rfl, by omega, by simp⟩ ?_
  rintro X k s hk ⟨rfl, hka, hc⟩ hX
  have hreq : ∀ K : Prop, reqK (okHead 1 (List.map Sy.str.enc a) && (decide (0 ≤ (k : Int)) && decide (Int.toNat (k : Int) ≤ (List.map Sy.str.enc a).length)) && true) K = K := fun K => by
    have e : (okHead 1 (List.map Sy.str.enc a) && (decide (0 ≤ (k : Int)) && decide (Int.toNat (k : Int) ≤ (List.map Sy.str.enc a).length)) && true) = true := by
      rw [show okHead 1 (List.map Sy.str.enc a) = true from okHead_str a]; simp [hka]
    rw [e]; simp [reqK]
  obtain ⟨c1, c2, c3⟩ := comm_step hc
  have res : comm a b = a.take k → T.sl false (List.drop 0 (List.take (Int.toNat (k : Int)) (List.map Sy.str.enc a))) = Sh.enc r_ls (comm a b) := fun e => by
    rw [e]; simp [Sh.enc, encV, Sy.enc, hdT, List.map_take]
  dsimp only
  rw [hreq]
  simp only [List.length_map, len_lt]
  by_cases ha : k < a.length
  · by_cases hb : k < b.length
    · simp only [ha, hb, decide_true, iteP_t, rowsK_at (r := .str) ha, rowsK_at (r := .str) hb]
      by_cases e : a[k] = b[k]
      · simp only [e, decide_true, iteP_t]
        refine hX _ ha ⟨?_, ha, c1 ha hb e⟩
        simp only [Prod.mk.injEq, and_true, true_and]
        exact wrap_id _ (by omega) (by omega)
      · simp only [e, decide_false, iteP_f]
        exact res (c2 ha hb e)
    · simp only [ha, hb, decide_true, decide_false, iteP_t, iteP_f]
      exact res (c3 fun h => hb h.2)
  · simp only [ha, decide_false, iteP_f]
    exact res (c3 fun h => ha h.1)
set_option maxRecDepth 100000
noncomputable def E_common18 : Env := Env.of [(34, .pure g_path18)]
def H_common18 : FuncId → Hint := fun f => match f == 29 with | true => ⟨fun r => match r == 4 with | true => .inv [.own 8 1 .str, .val 9 false (.int .i64)] | false => .none, fun _ _ => none, fun _ => none⟩ | false => noHint
theorem Eok_common18 : EnvOk Tryd.prog E_common18 := EnvOk.cons (x := .pure g_path18) fn_path18 (EnvOk.nil _)
def F_common18 (a0 : TDesign) (a1 : TSeam) (R : T → Prop) : Prop :=
  callK [(false, Sy.str.li)]
  (g_path18 [encV true yDesign a0, T.v (Value.string a1.snd.fst)])
  fun (y0 : List ByteArray) =>
  callK [(false, Sy.str.li)]
    (g_path18 [encV true yDesign a0, T.v (Value.string a1.snd.snd.fst)])
    fun (y1 : List ByteArray) =>
    loopK (List ByteArray × Int × PUnit)
      (fun (X2 : List ByteArray × Int × PUnit → Prop) (s3 : List ByteArray × Int × PUnit) =>
        iteP (decide (s3.snd.fst < (↑(List.map Sy.str.enc y0).length : Int)))
          (iteP (decide (s3.snd.fst < (↑(List.map Sy.str.enc y1).length : Int)))
            (rowsK Sy.str (List.map Sy.str.enc y0) s3.snd.fst fun (y4 : ByteArray) =>
              rowsK Sy.str (List.map Sy.str.enc y1) s3.snd.fst fun (y5 : ByteArray) =>
                iteP (decide (y4 = y5))
                  (rowsK Sy.str (List.map Sy.str.enc y0) s3.snd.fst fun (y6 : ByteArray) =>
                    reqK
                      (decide (((List.map Sy.str.enc s3.fst).length + 1) * 16 ≤ 140737488355328) &&
                        decide ((List.map Sy.str.enc s3.fst).length + 1 ≤ 140737488355328))
                      (decK Sy.str (List.map Sy.str.enc s3.fst ++ [[T.v (Value.string y6)]])
                        fun (y7 : List ByteArray) => X2 (y7, IntKind.i64.wrap (s3.snd.fst + 1), ())))
                  (iteP (decide (0 < (↑(List.map Sy.str.enc y0).length : Int)))
                    (R
                      (T.tup
                        [T.sl false (List.map Sy.str.enc s3.fst),
                          T.v (Value.bool (decide (0 < (↑(List.map Sy.str.enc y1).length : Int))))]))
                    (R
                      (T.tup
                        [T.sl false (List.map Sy.str.enc s3.fst), T.v (Value.bool false)]))))
            (iteP (decide (0 < (↑(List.map Sy.str.enc y0).length : Int)))
              (R
                (T.tup
                  [T.sl false (List.map Sy.str.enc s3.fst),
                    T.v (Value.bool (decide (0 < (↑(List.map Sy.str.enc y1).length : Int))))]))
              (R (T.tup [T.sl false (List.map Sy.str.enc s3.fst), T.v (Value.bool false)]))))
          (iteP (decide (0 < (↑(List.map Sy.str.enc y0).length : Int)))
            (R
              (T.tup
                [T.sl false (List.map Sy.str.enc s3.fst),
                  T.v (Value.bool (decide (0 < (↑(List.map Sy.str.enc y1).length : Int))))]))
            (R (T.tup [T.sl false (List.map Sy.str.enc s3.fst), T.v (Value.bool false)]))))
      ([], 0, ())
theorem F_common18_eq (a0 : TDesign) (a1 : TSeam) (R : T → Prop) : sxTop stdC2 Tryd.prog E_common18 H_common18 8 29 [encV true yDesign a0, encV true ySeam a1] R = F_common18 a0 a1 R := by kernel_rfl
abbrev s_common18 : Sh := [(true, yDesign), (true, ySeam)]
abbrev r_common18 : Sh := [(false, Sy.str.li), (false, Sy.bool)]
theorem r_common18_call (y : Sh.den r_common18) (K : Sh.den r_common18 → Prop) : callK r_common18 (some (Sh.enc r_common18 y)) K = K y := callK_enc rfl y K

noncomputable def g_common18 : List T → Option (T) := gS s_common18 sp_common18
theorem g_common18_at {a0} {a1} : g_common18 [encV true yDesign a0, encV true ySeam a1] = sp_common18 (a0, a1) := gS_enc (s := s_common18) rfl (a0, a1) rfl
theorem g_common18_op {u0 u1 u2 u3 u4 u5 u6 u7 u8 u9 u10 u11} : g_common18 [T.agg
    [T.v (Value.string u0), T.sl false (List.map yNode.enc u1),
      T.sl false (List.map yPart.enc u2),
      T.sl false (List.map ySeam.enc u3),
      T.sl false (List.map yPackage.enc u4),
      T.sl false (List.map yNeed.enc u5)],
  T.agg
    [T.v (Value.string u6), T.v (Value.string u7),
      T.v (Value.string u8), T.v (Value.int IntKind.i64 u9),
      T.v (Value.int IntKind.i64 u10),
      T.v (Value.int IntKind.i64 u11)]] = sp_common18 ((u0, (u1, (u2, (u3, (u4, u5))))), (u6, (u7, (u8, (u9, (u10, u11)))))) := gS_enc (s := s_common18) rfl ((u0, (u1, (u2, (u3, (u4, u5))))), (u6, (u7, (u8, (u9, (u10, u11)))))) rfl
theorem of_common18 (h : ∀ (a0 : TDesign) (a1 : TSeam) (r : T), sp_common18 (a0, a1) = some r → BdSh s_common18 (a0, a1) → F_common18 a0 a1 (fun y => y = r)) : PureFn Tryd.prog 29 g_common18 :=
  pureFn_S (E := E_common18) (Hs := H_common18) Eok_common18 mixed' plain' (noHeap_of rfl) 8 ⟨_, _, Tryd.func29, rfl⟩ rfl fun x r h1 h2 => by
    obtain ⟨a0, a1⟩ := x
    rw [show Sh.encs s_common18 (a0, a1) = [encV true yDesign a0, encV true ySeam a1] from rfl, F_common18_eq]
    exact h a0 a1 r h1 h2

theorem fn_common18 : PureFn Tryd.prog 29 g_common18 := of_common18 fun d sm r h hb => by
  have h' : onlyD d (Sh.enc r_lsb (way d sm, placed d sm)) = some r := h
  obtain ⟨hok, rfl⟩ := onlyD_of h'
  clear h h'
  unfold F_common18
  simp only [g_path18_at, sp_path18, sp_path, onlyD_ok _ hok, r_ls_call]
  unfold way placed
  have hla := pathOf_len d sm.2.1
  generalize pathOf d sm.2.1 = a at *
  generalize pathOf d sm.2.2.1 = b at *
  refine loopK_ix a.length (fun k s => s = (a.take k, (k : Int), ()) ∧ k ≤ a.length ∧ comm a b = a.take k ++ comm (a.drop k) (b.drop k)) ⟨rfl, by omega, by simp⟩ ?_
  rintro X k s hk ⟨rfl, hka, hc⟩ hX
  obtain ⟨c1, c2, c3⟩ := comm_step hc
  dsimp only
  have res : comm a b = a.take k → iteP (decide (0 < ((List.map Sy.str.enc a).length : Int)))
              (T.tup [T.sl false (List.map Sy.str.enc (List.take k a)), T.v (Value.bool (decide (0 < ((List.map Sy.str.enc b).length : Int))))] = Sh.enc r_lsb (comm a b, placedB a b))
              (T.tup [T.sl false (List.map Sy.str.enc (List.take k a)), T.v (Value.bool false)] = Sh.enc r_lsb (comm a b, placedB a b)) := fun e => by
    rw [e, iteP_def]
    by_cases h1 : 0 < a.length <;> simp [h1, placedB, Sh.enc, Sh.encs, encV, Sy.enc, hdT]
  simp only [len_lt, List.length_map] at res ⊢
  by_cases ha : k < a.length
  · by_cases hb : k < b.length
    · simp only [ha, hb, decide_true, iteP_t, rowsK_at (r := .str) ha, rowsK_at (r := .str) hb]
      by_cases e : a[k] = b[k]
      · have hr := app_ok (l := a.take k) (by simp; omega)
        simp only [List.length_map] at hr
        simp only [decide_eq_true e, iteP_t, hr]
        rw [dec_snoc]
        refine hX _ ha ⟨?_, ha, c1 ha hb e⟩
        simp only [Prod.mk.injEq, and_true, true_and]
        exact ⟨(List.take_succ_eq_append_getElem ha).symm, wrap_id _ (by omega) (by omega)⟩
      · simp only [decide_eq_false e, iteP_f]
        exact res (c2 ha hb e)
    · simp only [ha, hb, decide_true, decide_false, iteP_t, iteP_f]
      exact res (c3 fun h => hb h.2)
  · simp only [ha, decide_false, iteP_f]
    exact res (c3 fun h => ha h.1)
set_option maxRecDepth 100000
noncomputable def E_ways : Env := Env.of [(44, .pure g_path)]
def H_ways : FuncId → Hint := fun _ => noHint
theorem Eok_ways : EnvOk Tryd.prog E_ways := EnvOk.cons (x := .pure g_path) fn_path (EnvOk.nil _)
def F_ways (a0 : TDesign) (a1 : TSeam) (R : T → Prop) : Prop :=
  callK [(false, Sy.str.li)]
  (g_path [encV true yDesign a0, T.v (Value.string a1.snd.fst)]) fun (y0 : List ByteArray) =>
  callK [(false, Sy.str.li)]
    (g_path [encV true yDesign a0, T.v (Value.string a1.snd.snd.fst)])
    fun (y1 : List ByteArray) =>
    iteP (decide (0 < (↑(List.map Sy.str.enc y0).length : Int)))
      (R
        (T.tup
          [T.sl false (List.map Sy.str.enc y0), T.sl false (List.map Sy.str.enc y1),
            T.v (Value.bool (decide (0 < (↑(List.map Sy.str.enc y1).length : Int))))]))
      (R
        (T.tup
          [T.sl false (List.map Sy.str.enc y0), T.sl false (List.map Sy.str.enc y1),
            T.v (Value.bool false)]))
theorem F_ways_eq (a0 : TDesign) (a1 : TSeam) (R : T → Prop) : sxTop stdC2 Tryd.prog E_ways H_ways 8 26 [encV true yDesign a0, encV true ySeam a1] R = F_ways a0 a1 R := by kernel_rfl
abbrev s_ways : Sh := [(true, yDesign), (true, ySeam)]
abbrev r_ways : Sh := [(false, Sy.str.li), (false, Sy.str.li), (false, Sy.bool)]
theorem r_ways_call (y : Sh.den r_ways) (K : Sh.den r_ways → Prop) : callK r_ways (some (Sh.enc r_ways y)) K = K y := callK_enc rfl y K

noncomputable def g_ways : List T → Option (T) := gS s_ways sp_ways
theorem g_ways_at {a0} {a1} : g_ways [encV true yDesign a0, encV true ySeam a1] = sp_ways (a0, a1) := gS_enc (s := s_ways) rfl (a0, a1) rfl
theorem g_ways_op {u0 u1 u2 u3 u4 u5 u6 u7 u8 u9 u10 u11} : g_ways [T.agg
    [T.v (Value.string u0), T.sl false (List.map yNode.enc u1),
      T.sl false (List.map yPart.enc u2),
      T.sl false (List.map ySeam.enc u3),
      T.sl false (List.map yPackage.enc u4),
      T.sl false (List.map yNeed.enc u5)],
  T.agg
    [T.v (Value.string u6), T.v (Value.string u7),
      T.v (Value.string u8), T.v (Value.int IntKind.i64 u9),
      T.v (Value.int IntKind.i64 u10),
      T.v (Value.int IntKind.i64 u11)]] = sp_ways ((u0, (u1, (u2, (u3, (u4, u5))))), (u6, (u7, (u8, (u9, (u10, u11)))))) := gS_enc (s := s_ways) rfl ((u0, (u1, (u2, (u3, (u4, u5))))), (u6, (u7, (u8, (u9, (u10, u11)))))) rfl
theorem of_ways (h : ∀ (a0 : TDesign) (a1 : TSeam) (r : T), sp_ways (a0, a1) = some r → BdSh s_ways (a0, a1) → F_ways a0 a1 (fun y => y = r)) : PureFn Tryd.prog 26 g_ways :=
  pureFn_S (E := E_ways) (Hs := H_ways) Eok_ways mixed' plain' (noHeap_of rfl) 8 ⟨_, _, Tryd.func26, rfl⟩ rfl fun x r h1 h2 => by
    obtain ⟨a0, a1⟩ := x
    rw [show Sh.encs s_ways (a0, a1) = [encV true yDesign a0, encV true ySeam a1] from rfl, F_ways_eq]
    exact h a0 a1 r h1 h2

theorem fn_ways : PureFn Tryd.prog 26 g_ways := of_ways fun d sm r h hb => by
  have h' : onlyD d (Sh.enc r_lslsb (pathOf d sm.2.1, pathOf d sm.2.2.1, placed d sm)) = some r := h
  obtain ⟨hok, rfl⟩ := onlyD_of h'
  clear h h'
  unfold F_ways
  simp only [g_path_at, sp_path, onlyD_ok _ hok, r_ls_call]
  unfold placed
  generalize pathOf d sm.2.1 = a at *
  generalize pathOf d sm.2.2.1 = b at *
  rw [iteP_def]
  by_cases h1 : 0 < a.length <;> simp [h1, placedB, Sh.enc, Sh.encs, encV, Sy.enc, hdT]
theorem last_at {l : List ByteArray} (hl : l.length ≤ 65) {R : T → Prop} {u : T} (hR : R (T.tup [T.v (.string (last l)), u])) (h0 : ¬ l.length = 0) : rowsK Sy.str (List.map Sy.str.enc l) (IntKind.i64.wrap (((List.map Sy.str.enc l).length : Int) - 1)) (fun (y2 : ByteArray) => R (T.tup [T.v (Value.string y2), u])) := by
  have e : IntKind.i64.wrap (((List.map Sy.str.enc l).length : Int) - 1) = ((l.length - 1 : Nat) : Int) := by
    rw [List.length_map, wrap_id _ (by omega) (by omega)]; omega
  rw [e, rowsK_at (r := .str) (by omega)]
  have : last l = l[l.length - 1]'(by omega) := by
    unfold last
    rw [List.getLastD_eq_getLast?, List.getLast?_eq_getElem?, List.getElem?_eq_getElem (by omega)]
    rfl
  rw [← this]; exact hR
theorem way_len (d : TDesign) (sm : TSeam) : (way d sm).length ≤ 65 := by
  have := (comm_left (a := pathOf d sm.2.1) (b := pathOf d sm.2.2.1)).1
  have := pathOf_len d sm.2.1
  unfold way; omega
theorem way_placed {d : TDesign} {sm : TSeam} (h : ¬ (way d sm).length = 0) : placed d sm = true := by
  cases hp : placed d sm with
  | true => rfl
  | false => exact absurd (by rw [show way d sm = [] from comm_placed hp]; rfl) h
theorem way_nil {d : TDesign} {sm : TSeam} (h : (way d sm).length = 0) : last (way d sm) = ⟨#[]⟩ := by
  rw [List.length_eq_zero_iff.1 h]; rfl
set_option maxRecDepth 100000
noncomputable def E_home18 : Env := Env.of [(28, .pure g_seam17), (29, .pure g_common18)]
def H_home18 : FuncId → Hint := fun _ => noHint
theorem Eok_home18 : EnvOk Tryd.prog E_home18 := EnvOk.cons (x := .pure g_seam17) fn_seam17 (EnvOk.cons (x := .pure g_common18) fn_common18 (EnvOk.nil _))
def F_home18 (a0 : TDesign) (a1 : ByteArray) (R : T → Prop) : Prop :=
  callK [(true, ySeam), (false, Sy.bool)]
  (g_seam17 [encV true yDesign a0, T.v (Value.string a1)]) fun (y0 : TSeam × Bool) =>
  iteP (!y0.snd) (R (T.tup [T.v (Value.string { data := #[] }), T.v (Value.bool false)]))
    (callK [(false, Sy.str.li), (false, Sy.bool)]
      (g_common18 [encV true yDesign a0, encV true ySeam y0.fst])
      fun (y1 : List ByteArray × Bool) =>
      iteP (decide ((↑(List.map Sy.str.enc y1.fst).length : Int) = 0))
        (R (T.tup [T.v (Value.string { data := #[] }), T.v (Value.bool y1.snd)]))
        (rowsK Sy.str (List.map Sy.str.enc y1.fst)
          (IntKind.i64.wrap ((↑(List.map Sy.str.enc y1.fst).length : Int) - 1)) fun (y2 : ByteArray) =>
          R (T.tup [T.v (Value.string y2), T.v (Value.bool true)])))
theorem F_home18_eq (a0 : TDesign) (a1 : ByteArray) (R : T → Prop) : sxTop stdC2 Tryd.prog E_home18 H_home18 8 12 [encV true yDesign a0, encV false Sy.str a1] R = F_home18 a0 a1 R := by kernel_rfl
abbrev s_home18 : Sh := [(true, yDesign), (false, Sy.str)]
abbrev r_home18 : Sh := [(false, Sy.str), (false, Sy.bool)]
theorem r_home18_call (y : Sh.den r_home18) (K : Sh.den r_home18 → Prop) : callK r_home18 (some (Sh.enc r_home18 y)) K = K y := callK_enc rfl y K

noncomputable def g_home18 : List T → Option (T) := gS s_home18 sp_home18
theorem g_home18_at {a0} {a1} : g_home18 [encV true yDesign a0, T.v (Value.string a1)] = sp_home18 (a0, a1) := gS_enc (s := s_home18) rfl (a0, a1) rfl
theorem g_home18_op {u0 u1 u2 u3 u4 u5 u6} : g_home18 [T.agg
    [T.v (Value.string u0), T.sl false (List.map yNode.enc u1),
      T.sl false (List.map yPart.enc u2),
      T.sl false (List.map ySeam.enc u3),
      T.sl false (List.map yPackage.enc u4),
      T.sl false (List.map yNeed.enc u5)],
  T.v (Value.string u6)] = sp_home18 ((u0, (u1, (u2, (u3, (u4, u5))))), u6) := gS_enc (s := s_home18) rfl ((u0, (u1, (u2, (u3, (u4, u5))))), u6) rfl
theorem of_home18 (h : ∀ (a0 : TDesign) (a1 : ByteArray) (r : T), sp_home18 (a0, a1) = some r → BdSh s_home18 (a0, a1) → F_home18 a0 a1 (fun y => y = r)) : PureFn Tryd.prog 12 g_home18 :=
  pureFn_S (E := E_home18) (Hs := H_home18) Eok_home18 mixed' plain' (noHeap_of rfl) 8 ⟨_, _, Tryd.func12, rfl⟩ rfl fun x r h1 h2 => by
    obtain ⟨a0, a1⟩ := x
    rw [show Sh.encs s_home18 (a0, a1) = [encV true yDesign a0, encV false Sy.str a1] from rfl, F_home18_eq]
    exact h a0 a1 r h1 h2

theorem fn_home18 : PureFn Tryd.prog 12 g_home18 := of_home18 fun d id r h hb => by
  have h' : onlyD d (Sh.enc r_sb (home d id)) = some r := h
  obtain ⟨hok, rfl⟩ := onlyD_of h'
  clear h h'
  unfold F_home18
  simp only [g_seam17_at, sp_seam17, sp_seam, r_seam17_call, g_common18_at, sp_common18, onlyD_ok _ hok, r_lsb_call]
  unfold home
  cases hs : seamOf d id with
  | none => simp [found, iteP_t, Sh.enc, Sh.encs, encV, Sy.enc, hdT]
  | some sm =>
    simp only [found, Bool.not_true, iteP_f]
    by_cases h0 : (way d sm).length = 0
    · simp only [List.length_map, h0, way_nil h0]
      simp [iteP_t, Sh.enc, Sh.encs, encV, Sy.enc, hdT]
    · exact iteP_no (by simpa using h0) (last_at (way_len d sm) (R := fun y => y = Sh.enc r_sb (last (way d sm), placed d sm)) (by simp [way_placed h0, Sh.enc, Sh.encs, encV, Sy.enc, hdT]) h0)
set_option maxRecDepth 100000
noncomputable def E_home : Env := Env.of [(25, .pure g_seam), (26, .pure g_ways), (27, .pure g_common)]
def H_home : FuncId → Hint := fun _ => noHint
theorem Eok_home : EnvOk Tryd.prog E_home := EnvOk.cons (x := .pure g_seam) fn_seam (EnvOk.cons (x := .pure g_ways) fn_ways (EnvOk.cons (x := .pure g_common) fn_common (EnvOk.nil _)))
def F_home (a0 : TDesign) (a1 : ByteArray) (R : T → Prop) : Prop :=
  callK [(true, ySeam), (false, Sy.bool)]
  (g_seam [encV true yDesign a0, T.v (Value.string a1)]) fun (y0 : TSeam × Bool) =>
  iteP (!y0.snd) (R (T.tup [T.v (Value.string { data := #[] }), T.v (Value.bool false)]))
    (callK [(false, Sy.str.li), (false, Sy.str.li), (false, Sy.bool)]
      (g_ways [encV true yDesign a0, encV true ySeam y0.fst])
      fun (y1 : List ByteArray × List ByteArray × Bool) =>
      iteP (!y1.snd.snd)
        (R (T.tup [T.v (Value.string { data := #[] }), T.v (Value.bool false)]))
        (callK [(false, Sy.str.li)]
          (g_common
            [T.sl false (List.map Sy.str.enc y1.fst),
              T.sl false (List.map Sy.str.enc y1.snd.fst)])
          fun (y2 : List ByteArray) =>
          iteP (decide ((↑(List.map Sy.str.enc y2).length : Int) = 0))
            (R (T.tup [T.v (Value.string { data := #[] }), T.v (Value.bool true)]))
            (rowsK Sy.str (List.map Sy.str.enc y2)
              (IntKind.i64.wrap ((↑(List.map Sy.str.enc y2).length : Int) - 1)) fun (y3 : ByteArray) =>
              R (T.tup [T.v (Value.string y3), T.v (Value.bool true)]))))
theorem F_home_eq (a0 : TDesign) (a1 : ByteArray) (R : T → Prop) : sxTop stdC2 Tryd.prog E_home H_home 8 11 [encV true yDesign a0, encV false Sy.str a1] R = F_home a0 a1 R := by kernel_rfl
abbrev s_home : Sh := [(true, yDesign), (false, Sy.str)]
abbrev r_home : Sh := [(false, Sy.str), (false, Sy.bool)]
theorem r_home_call (y : Sh.den r_home) (K : Sh.den r_home → Prop) : callK r_home (some (Sh.enc r_home y)) K = K y := callK_enc rfl y K

noncomputable def g_home : List T → Option (T) := gS s_home sp_home
theorem g_home_at {a0} {a1} : g_home [encV true yDesign a0, T.v (Value.string a1)] = sp_home (a0, a1) := gS_enc (s := s_home) rfl (a0, a1) rfl
theorem g_home_op {u0 u1 u2 u3 u4 u5 u6} : g_home [T.agg
    [T.v (Value.string u0), T.sl false (List.map yNode.enc u1),
      T.sl false (List.map yPart.enc u2),
      T.sl false (List.map ySeam.enc u3),
      T.sl false (List.map yPackage.enc u4),
      T.sl false (List.map yNeed.enc u5)],
  T.v (Value.string u6)] = sp_home ((u0, (u1, (u2, (u3, (u4, u5))))), u6) := gS_enc (s := s_home) rfl ((u0, (u1, (u2, (u3, (u4, u5))))), u6) rfl
theorem of_home (h : ∀ (a0 : TDesign) (a1 : ByteArray) (r : T), sp_home (a0, a1) = some r → BdSh s_home (a0, a1) → F_home a0 a1 (fun y => y = r)) : PureFn Tryd.prog 11 g_home :=
  pureFn_S (E := E_home) (Hs := H_home) Eok_home mixed' plain' (noHeap_of rfl) 8 ⟨_, _, Tryd.func11, rfl⟩ rfl fun x r h1 h2 => by
    obtain ⟨a0, a1⟩ := x
    rw [show Sh.encs s_home (a0, a1) = [encV true yDesign a0, encV false Sy.str a1] from rfl, F_home_eq]
    exact h a0 a1 r h1 h2

theorem fn_home : PureFn Tryd.prog 11 g_home := of_home fun d id r h hb => by
  have h' : onlyD d (Sh.enc r_sb (home d id)) = some r := h
  obtain ⟨hok, rfl⟩ := onlyD_of h'
  clear h h'
  unfold F_home
  simp only [g_seam_at, sp_seam, r_seam_call, g_ways_at, sp_ways, onlyD_ok _ hok, r_ways_call]
  unfold home
  cases hs : seamOf d id with
  | none => simp [found, iteP_t, Sh.enc, Sh.encs, encV, Sy.enc, hdT]
  | some sm =>
    simp only [found, Bool.not_true, iteP_f]
    by_cases hp : placed d sm = true
    · have hg : g_common [T.sl false (List.map Sy.str.enc (pathOf d sm.2.1)), T.sl false (List.map Sy.str.enc (pathOf d sm.2.2.1))] = some (Sh.enc r_ls (way d sm)) := by
        rw [show g_common [T.sl false (List.map Sy.str.enc (pathOf d sm.2.1)), T.sl false (List.map Sy.str.enc (pathOf d sm.2.2.1))] = sp_common (pathOf d sm.2.1, pathOf d sm.2.2.1) from g_common_at]; rfl
      rw [hp, Bool.not_true, iteP_f, hg, r_ls_call]
      by_cases h0 : (way d sm).length = 0
      · simp only [List.length_map, h0, way_nil h0]
        simp [iteP_t, Sh.enc, Sh.encs, encV, Sy.enc, hdT]
      · rw [show decide (((List.map Sy.str.enc (way d sm)).length : Int) = 0) = false by simpa using h0, iteP_f]
        exact last_at (way_len d sm) (R := fun y => y = Sh.enc r_sb (last (way d sm), true)) (by simp [Sh.enc, Sh.encs, encV, Sy.enc, hdT]) h0
    · have hp' : placed d sm = false := by simpa using hp
      have h0 : (way d sm).length = 0 := by rw [show way d sm = [] from comm_placed hp']; rfl
      rw [hp', way_nil h0]
      simp [iteP_t, Sh.enc, Sh.encs, encV, Sy.enc, hdT]
end Go.Pv
