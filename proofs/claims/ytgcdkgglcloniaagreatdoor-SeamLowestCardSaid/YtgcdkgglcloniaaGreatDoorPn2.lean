/-
  The paths of a seam's two parts, and what they share.
  slices.Sort of a list of integers, by the library's contract.
  The lists of seams.
-/
import Derived.Test.YtgcdkgglcloniaaGreatDoorPn1
import Derived.Test.YtgcdkgglcloniaaGreatDoorPkl
import Derived.Test.YtgcdkgglcloniaaGreatDoorPlt
import Derived.Shelf.Sort.Plain
import Derived.Shelf.Slices.In.SortNone
import Derived.Test.YtgcdkgglcloniaaGreatDoorPkm
set_option linter.unusedSimpArgs false
set_option linter.unusedVariables false
set_option maxRecDepth 100000
namespace Go.Pv
open Go Go.Proofs

/-- What two paths share at their heads. -/
def comm : List ByteArray → List ByteArray → List ByteArray
  | x :: a, y :: b => if x = y then x :: comm a b else []
  | _, _ => []
def placedB (a b : List ByteArray) : Bool := decide (0 < a.length) && decide (0 < b.length)
abbrev r_lslsb : Sh := [(false, .li .str), (false, .li .str), (false, .bool)]
abbrev r_lslb : Sh := [(false, .li .str), (false, .bool)]
def sp_common (x : List ByteArray × List ByteArray) : Option T := some (Sh.enc r_ls (comm x.1 x.2))
def way (d : TDesign) (s : TSeam) : List ByteArray := comm (pathOf d s.2.1) (pathOf d s.2.2.1)
def placed (d : TDesign) (s : TSeam) : Bool := placedB (pathOf d s.2.1) (pathOf d s.2.2.1)
def sp_common18 (x : TDesign × TSeam) : Option T := onlyD x.1 (Sh.enc r_lsb (way x.1 x.2, placed x.1 x.2))
def sp_ways (x : TDesign × TSeam) : Option T := onlyD x.1 (Sh.enc r_lslsb (pathOf x.1 x.2.2.1, pathOf x.1 x.2.2.2.1, placed x.1 x.2))
def last (l : List ByteArray) : ByteArray := l.getLastD ⟨#[]⟩
def home (d : TDesign) (id : ByteArray) : ByteArray × Bool := match seamOf d id with
  | some s => (last (way d s), placed d s)
  | none => (⟨#[]⟩, false)
abbrev r_sb : Sh := [(false, .str), (false, .bool)]
def sp_home (x : TDesign × ByteArray) : Option T := onlyD x.1 (Sh.enc r_sb (home x.1 x.2))
abbrev sp_home18 := sp_home
theorem comm_left : ∀ {a b : List ByteArray}, (comm a b).length ≤ a.length ∧ (comm a b).length ≤ b.length
  | [], b => by simp [comm]
  | x :: a, [] => by simp [comm]
  | x :: a, y :: b => by
    simp only [comm]
    have := comm_left (a := a) (b := b)
    split <;> simp <;> omega
theorem comm_placed {a b : List ByteArray} (h : placedB a b = false) : comm a b = [] := by
  cases a with
  | nil => simp [comm]
  | cons x a => cases b with
    | nil => simp [comm]
    | cons y b => simp [placedB] at h
theorem comm_step {a b : List ByteArray} {k : Nat} (h : comm a b = a.take k ++ comm (a.drop k) (b.drop k)) :
    (∀ (ha : k < a.length) (hb : k < b.length), a[k] = b[k] → comm a b = a.take (k + 1) ++ comm (a.drop (k + 1)) (b.drop (k + 1))) ∧
    (∀ (ha : k < a.length) (hb : k < b.length), a[k] ≠ b[k] → comm a b = a.take k) ∧ (¬ (k < a.length ∧ k < b.length) → comm a b = a.take k) := by
  refine ⟨fun ha hb e => ?_, fun ha hb e => ?_, fun hn => ?_⟩
  · rw [h, List.drop_eq_getElem_cons ha, List.drop_eq_getElem_cons hb, comm, if_pos e, List.take_succ_eq_append_getElem ha, List.append_assoc]; rfl
  · rw [h, List.drop_eq_getElem_cons ha, List.drop_eq_getElem_cons hb, comm, if_neg e, List.append_nil]
  · rw [h]
    by_cases ha : k < a.length
    · rw [List.drop_eq_nil_of_le (show b.length ≤ k by omega)]
      cases a.drop k <;> simp [comm]
    · rw [List.drop_eq_nil_of_le (show a.length ≤ k by omega)]
      simp [comm]
theorem path0_len (d : TDesign) (id : ByteArray) : (path0 d id).length ≤ 65 := by
  unfold path0
  cases nodeOf d id with
  | some x => simpa using up_len d id
  | none => cases partOf d id with
    | none => simp
    | some p => simpa using up_len d (pNode p)
theorem pathOf_len (d : TDesign) (id : ByteArray) : (pathOf d id).length ≤ 65 := by
  unfold pathOf; cases partOf d id with
  | none => simp
  | some p => exact path0_len d (pNode p)
theorem okHead_str (l : List ByteArray) : okHead 1 (List.map Sy.str.enc l) = true := by cases l <;> rfl
theorem r_ls_call (y : List ByteArray) (K : List ByteArray → Prop) : callK r_ls (some (Sh.enc r_ls y)) K = K y := callK_enc (s := r_ls) rfl y K
theorem r_lsb_call (y : List ByteArray × Bool) (K : List ByteArray × Bool → Prop) : callK r_lsb (some (Sh.enc r_lsb y)) K = K y := callK_enc (s := r_lsb) rfl y K
set_option maxRecDepth 100000
noncomputable def E_path : Env := Env.of [(17, .pure g_partD), (10, .pure g_path0)]
def H_path : FuncId → Hint := fun _ => noHint
theorem Eok_path : EnvOk Tryz.prog E_path := EnvOk.cons (x := .pure g_partD) fn_partD (EnvOk.cons (x := .pure g_path0) fn_path0 (EnvOk.nil _))
def F_path (a0 : TDesign) (a1 : ByteArray) (R : T → Prop) : Prop :=
 callK [(true, yPart), (false, Sy.bool)]
 (g_partD [encV true yDesign a0, T.v (Value.string a1)]) fun (y0 : TPart × Bool) =>
 iteP (!y0.snd) (R (T.sl false []))
 (callK [(false, Sy.str.li)]
 (g_path0 [encV true yDesign a0, T.v (Value.string y0.fst.snd.snd.snd.fst)])
 fun (y1 : List ByteArray) => R (T.sl false (List.map Sy.str.enc y1)))
theorem F_path_eq (a0 : TDesign) (a1 : ByteArray) (R : T → Prop) : sxTop stdC2 Tryz.prog E_path H_path 8 48 [encV true yDesign a0, encV false Sy.str a1] R = F_path a0 a1 R := by kernel_rfl
abbrev s_path : Sh := [(true, yDesign), (false, Sy.str)]
abbrev r_path : Sh := [(false, Sy.str.li)]
theorem r_path_call (y : Sh.den r_path) (K : Sh.den r_path → Prop) : callK r_path (some (Sh.enc r_path y)) K = K y := callK_enc rfl y K

noncomputable def g_path : List T → Option (T) := gS s_path sp_path
theorem g_path_at {a0 : TDesign} {a1 : ByteArray} : g_path [encV true yDesign a0, T.v (Value.string a1)] = sp_path (a0, a1) := gS_enc (s := s_path) rfl (a0, a1) rfl
theorem g_path_op {u0 u1 u2 u3 u4 u5 u6} : g_path [T.agg
    [T.v (Value.string u0), T.sl false (List.map yNode.enc u1),
      T.sl false (List.map yPart.enc u2),
      T.sl false (List.map ySeam.enc u3),
      T.sl false (List.map yPackage.enc u4),
      T.sl false (List.map yNeed.enc u5)],
  T.v (Value.string u6)] = sp_path ((u0, (u1, (u2, (u3, (u4, u5))))), u6) := gS_enc (s := s_path) rfl ((u0, (u1, (u2, (u3, (u4, u5))))), u6) rfl
theorem of_path (h : ∀ (a0 : TDesign) (a1 : ByteArray) (r : T), sp_path (a0, a1) = some r → BdSh s_path (a0, a1) → F_path a0 a1 (fun y => y = r)) : PureFn Tryz.prog 48 g_path :=
  pureFn_S (E := E_path) (Hs := H_path) Eok_path mixed' plain' (noHeap_of rfl) 8 ⟨_, _, Tryz.func48, rfl⟩ rfl fun x r h1 h2 => by
    obtain ⟨a0, a1⟩ := x
    rw [show Sh.encs s_path (a0, a1) = [encV true yDesign a0, encV false Sy.str a1] from rfl, F_path_eq]
    exact h a0 a1 r h1 h2

theorem fn_path : PureFn Tryz.prog 48 g_path := of_path fun d id r h hb => by
  have h' : onlyD d (Sh.enc r_ls (pathOf d id)) = some r := h
  obtain ⟨hok, rfl⟩ := onlyD_of h'
  unfold F_path
  simp only [g_partD_at, sp_partD, sp_part, hok, r_partD_call, g_path0_at, sp_path0, onlyD_ok _ hok, r_path0_call]
  cases hp : partOf d id <;> simp [found, pathOf, hp, iteP_t, iteP_f, Sh.enc, encV, Sy.enc, hdT]
set_option maxRecDepth 100000
noncomputable def E_common : Env := Env.of []
def H_common : FuncId → Hint := fun f => match f == 25 with | true => ⟨fun r => match r == 2 with | true => .inv [.val 5 false (.int .i64)] | false => .none, fun _ _ => none, fun _ => none⟩ | false => noHint
theorem Eok_common : EnvOk Tryz.prog E_common := EnvOk.nil _
def F_common (a0 : List ByteArray) (a1 : List ByteArray) (R : T → Prop) : Prop :=
 loopK (Int × PUnit)
 (fun (X0 : Int × PUnit → Prop) (s1 : Int × PUnit) =>
 iteP (decide (s1.fst < (↑(List.map Sy.str.enc a0).length : Int)))
 (iteP (decide (s1.fst < (↑(List.map Sy.str.enc a1).length : Int)))
 (rowsK Sy.str (List.map Sy.str.enc a0) s1.fst fun (y2 : ByteArray) =>
 rowsK Sy.str (List.map Sy.str.enc a1) s1.fst fun (y3 : ByteArray) =>
 iteP (decide (y2 = y3)) (X0 (IntKind.i64.wrap (s1.fst + 1), ()))
 (reqK
 (okHead 1 (List.map Sy.str.enc a0) &&
 (decide (0 ≤ s1.fst) && decide (Int.toNat s1.fst ≤ (List.map Sy.str.enc a0).length)) &&
 true)
 (R (T.sl false (List.drop 0 (List.take (Int.toNat s1.fst) (List.map Sy.str.enc a0)))))))
 (reqK
 (okHead 1 (List.map Sy.str.enc a0) &&
 (decide (0 ≤ s1.fst) && decide (Int.toNat s1.fst ≤ (List.map Sy.str.enc a0).length)) &&
 true)
 (R (T.sl false (List.drop 0 (List.take (Int.toNat s1.fst) (List.map Sy.str.enc a0)))))))
 (reqK
 (okHead 1 (List.map Sy.str.enc a0) &&
 (decide (0 ≤ s1.fst) && decide (Int.toNat s1.fst ≤ (List.map Sy.str.enc a0).length)) &&
 true)
 (R (T.sl false (List.drop 0 (List.take (Int.toNat s1.fst) (List.map Sy.str.enc a0)))))))
 (0, ())
theorem F_common_eq (a0 : List ByteArray) (a1 : List ByteArray) (R : T → Prop) : sxTop stdC2 Tryz.prog E_common H_common 8 25 [encV false Sy.str.li a0, encV false Sy.str.li a1] R = F_common a0 a1 R := by kernel_rfl
abbrev s_common : Sh := [(false, Sy.str.li), (false, Sy.str.li)]
abbrev r_common : Sh := [(false, Sy.str.li)]
theorem r_common_call (y : Sh.den r_common) (K : Sh.den r_common → Prop) : callK r_common (some (Sh.enc r_common y)) K = K y := callK_enc rfl y K

noncomputable def g_common : List T → Option (T) := gS s_common sp_common
theorem g_common_at {a0 : List ByteArray} {a1 : List ByteArray} : g_common [T.sl false (List.map Sy.str.enc a0), T.sl false (List.map Sy.str.enc a1)] = sp_common (a0, a1) := gS_enc (s := s_common) rfl (a0, a1) rfl
theorem g_common_op {u0 u1} : g_common [T.sl false (List.map Sy.str.enc u0), T.sl false (List.map Sy.str.enc u1)] = sp_common (u0, u1) := gS_enc (s := s_common) rfl (u0, u1) rfl
theorem of_common (h : ∀ (a0 : List ByteArray) (a1 : List ByteArray) (r : T), sp_common (a0, a1) = some r → BdSh s_common (a0, a1) → F_common a0 a1 (fun y => y = r)) : PureFn Tryz.prog 25 g_common :=
  pureFn_S (E := E_common) (Hs := H_common) Eok_common mixed' plain' (noHeap_of rfl) 8 ⟨_, _, Tryz.func25, rfl⟩ rfl fun x r h1 h2 => by
    obtain ⟨a0, a1⟩ := x
    rw [show Sh.encs s_common (a0, a1) = [encV false Sy.str.li a0, encV false Sy.str.li a1] from rfl, F_common_eq]
    exact h a0 a1 r h1 h2

theorem fn_common : PureFn Tryz.prog 25 g_common := of_common fun a b r h hb => by
  have h' : some (Sh.enc r_ls (comm a b)) = some r := h
  cases h'
  clear h
  have hla : a.length ≤ 2 ^ 47 := hb.1.1
  unfold F_common
  refine loopK_ix a.length (fun k s => s = ((k : Int), ()) ∧ k ≤ a.length ∧ comm a b = a.take k ++ comm (a.drop k) (b.drop k)) ⟨rfl, by omega, by simp⟩ ?_
  rintro X k s hk ⟨rfl, hka, hc⟩ hX
  have hreq : ∀ K : Prop, reqK (okHead 1 (List.map Sy.str.enc a) && (decide (0 ≤ (k : Int)) && decide (Int.toNat (k : Int) ≤ (List.map Sy.str.enc a).length)) && true) K = K := fun K => by
    have e : (okHead 1 (List.map Sy.str.enc a) && (decide (0 ≤ (k : Int)) && decide (Int.toNat (k : Int) ≤ (List.map Sy.str.enc a).length)) && true) = true := by
      rw [show okHead 1 (List.map Sy.str.enc a) = true from okHead_str a]; simp [hka]
    rw [e]; simp [reqK]
  obtain ⟨c1, c2, c3⟩ := comm_step hc
  have res : comm a b = a.take k → T.sl false (List.drop 0 (List.take (Int.toNat (k : Int)) (List.map Sy.str.enc a))) = Sh.enc r_ls (comm a b) := fun e => by
    rw [e]; simp [Sh.enc, encV, Sy.enc, hdT, List.map_take]
  dsimp only
  rw [hreq]
  simp only [List.length_map, len_lt]
  by_cases ha : k < a.length
  · by_cases hb : k < b.length
    · simp only [ha, hb, decide_true, iteP_t, rowsK_at (r := .str) ha, rowsK_at (r := .str) hb]
      by_cases e : a[k] = b[k]
      · simp only [e, decide_true, iteP_t]
        refine hX _ ha ⟨?_, ha, c1 ha hb e⟩
        simp only [Prod.mk.injEq, and_true, true_and]
        exact wrap_id _ (by omega) (by omega)
      · simp only [e, decide_false, iteP_f]
        exact res (c2 ha hb e)
    · simp only [ha, hb, decide_true, decide_false, iteP_t, iteP_f]
      exact res (c3 fun h => hb h.2)
  · simp only [ha, decide_false, iteP_f]
    exact res (c3 fun h => ha h.1)
set_option maxRecDepth 100000
noncomputable def E_ways : Env := Env.of [(48, .pure g_path)]
def H_ways : FuncId → Hint := fun _ => noHint
theorem Eok_ways : EnvOk Tryz.prog E_ways := EnvOk.cons (x := .pure g_path) fn_path (EnvOk.nil _)
def F_ways (a0 : TDesign) (a1 : TSeam) (R : T → Prop) : Prop :=
 callK [(false, Sy.str.li)]
 (g_path [encV true yDesign a0, T.v (Value.string a1.snd.fst)]) fun (y0 : List ByteArray) =>
 callK [(false, Sy.str.li)]
 (g_path [encV true yDesign a0, T.v (Value.string a1.snd.snd.fst)])
 fun (y1 : List ByteArray) =>
 iteP (decide (0 < (↑(List.map Sy.str.enc y0).length : Int)))
 (R
 (T.tup
 [T.sl false (List.map Sy.str.enc y0), T.sl false (List.map Sy.str.enc y1),
 T.v (Value.bool (decide (0 < (↑(List.map Sy.str.enc y1).length : Int))))]))
 (R
 (T.tup
 [T.sl false (List.map Sy.str.enc y0), T.sl false (List.map Sy.str.enc y1),
 T.v (Value.bool false)]))
theorem F_ways_eq (a0 : TDesign) (a1 : TSeam) (R : T → Prop) : sxTop stdC2 Tryz.prog E_ways H_ways 8 24 [encV true yDesign a0, encV true ySeam a1] R = F_ways a0 a1 R := by kernel_rfl
abbrev s_ways : Sh := [(true, yDesign), (true, ySeam)]
abbrev r_ways : Sh := [(false, Sy.str.li), (false, Sy.str.li), (false, Sy.bool)]
theorem r_ways_call (y : Sh.den r_ways) (K : Sh.den r_ways → Prop) : callK r_ways (some (Sh.enc r_ways y)) K = K y := callK_enc rfl y K

noncomputable def g_ways : List T → Option (T) := gS s_ways sp_ways
theorem g_ways_at {a0 : TDesign} {a1 : TSeam} : g_ways [encV true yDesign a0, encV true ySeam a1] = sp_ways (a0, a1) := gS_enc (s := s_ways) rfl (a0, a1) rfl
theorem g_ways_op {u0 u1 u2 u3 u4 u5 u6 u7 u8 u9 u10 u11} : g_ways [T.agg
    [T.v (Value.string u0), T.sl false (List.map yNode.enc u1),
      T.sl false (List.map yPart.enc u2),
      T.sl false (List.map ySeam.enc u3),
      T.sl false (List.map yPackage.enc u4),
      T.sl false (List.map yNeed.enc u5)],
  T.agg
    [T.v (Value.string u6), T.v (Value.string u7),
      T.v (Value.string u8), T.v (Value.int IntKind.i64 u9),
      T.v (Value.int IntKind.i64 u10),
      T.v (Value.int IntKind.i64 u11)]] = sp_ways ((u0, (u1, (u2, (u3, (u4, u5))))), (u6, (u7, (u8, (u9, (u10, u11)))))) := gS_enc (s := s_ways) rfl ((u0, (u1, (u2, (u3, (u4, u5))))), (u6, (u7, (u8, (u9, (u10, u11)))))) rfl
theorem of_ways (h : ∀ (a0 : TDesign) (a1 : TSeam) (r : T), sp_ways (a0, a1) = some r → BdSh s_ways (a0, a1) → F_ways a0 a1 (fun y => y = r)) : PureFn Tryz.prog 24 g_ways :=
  pureFn_S (E := E_ways) (Hs := H_ways) Eok_ways mixed' plain' (noHeap_of rfl) 8 ⟨_, _, Tryz.func24, rfl⟩ rfl fun x r h1 h2 => by
    obtain ⟨a0, a1⟩ := x
    rw [show Sh.encs s_ways (a0, a1) = [encV true yDesign a0, encV true ySeam a1] from rfl, F_ways_eq]
    exact h a0 a1 r h1 h2

theorem fn_ways : PureFn Tryz.prog 24 g_ways := of_ways fun d sm r h hb => by
  have h' : onlyD d (Sh.enc r_lslsb (pathOf d sm.2.1, pathOf d sm.2.2.1, placed d sm)) = some r := h
  obtain ⟨hok, rfl⟩ := onlyD_of h'
  clear h h'
  unfold F_ways
  simp only [g_path_at, sp_path, onlyD_ok _ hok, r_ls_call]
  unfold placed
  generalize pathOf d sm.2.1 = a at *
  generalize pathOf d sm.2.2.1 = b at *
  rw [iteP_def]
  by_cases h1 : 0 < a.length <;> simp [h1, placedB, Sh.enc, Sh.encs, encV, Sy.enc, hdT]
theorem last_at {l : List ByteArray} (hl : l.length ≤ 65) {R : T → Prop} {u : T} (hR : R (T.tup [T.v (.string (last l)), u])) (h0 : ¬ l.length = 0) : rowsK Sy.str (List.map Sy.str.enc l) (IntKind.i64.wrap (((List.map Sy.str.enc l).length : Int) - 1)) (fun (y2 : ByteArray) => R (T.tup [T.v (Value.string y2), u])) := by
  have e : IntKind.i64.wrap (((List.map Sy.str.enc l).length : Int) - 1) = ((l.length - 1 : Nat) : Int) := by
    rw [List.length_map, wrap_id _ (by omega) (by omega)]; omega
  rw [e, rowsK_at (r := .str) (by omega)]
  have : last l = l[l.length - 1]'(by omega) := by
    unfold last
    rw [List.getLastD_eq_getLast?, List.getLast?_eq_getElem?, List.getElem?_eq_getElem (by omega)]
    rfl
  rw [← this]; exact hR
theorem way_len (d : TDesign) (sm : TSeam) : (way d sm).length ≤ 65 := by
  have := (comm_left (a := pathOf d sm.2.1) (b := pathOf d sm.2.2.1)).1
  have := pathOf_len d sm.2.1
  unfold way; omega
theorem way_placed {d : TDesign} {sm : TSeam} (h : ¬ (way d sm).length = 0) : placed d sm = true := by
  cases hp : placed d sm with
  | true => rfl
  | false => exact absurd (by rw [show way d sm = [] from comm_placed hp]; rfl) h
theorem way_nil {d : TDesign} {sm : TSeam} (h : (way d sm).length = 0) : last (way d sm) = ⟨#[]⟩ := by
  rw [List.length_eq_zero_iff.1 h]; rfl
set_option maxRecDepth 100000
noncomputable def E_home : Env := Env.of [(23, .pure g_seam), (24, .pure g_ways), (25, .pure g_common)]
def H_home : FuncId → Hint := fun _ => noHint
theorem Eok_home : EnvOk Tryz.prog E_home := EnvOk.cons (x := .pure g_seam) fn_seam (EnvOk.cons (x := .pure g_ways) fn_ways (EnvOk.cons (x := .pure g_common) fn_common (EnvOk.nil _)))
def F_home (a0 : TDesign) (a1 : ByteArray) (R : T → Prop) : Prop :=
 callK [(true, ySeam), (false, Sy.bool)]
 (g_seam [encV true yDesign a0, T.v (Value.string a1)]) fun (y0 : TSeam × Bool) =>
 iteP (!y0.snd) (R (T.tup [T.v (Value.string { data := #[] }), T.v (Value.bool false)]))
 (callK [(false, Sy.str.li), (false, Sy.str.li), (false, Sy.bool)]
 (g_ways [encV true yDesign a0, encV true ySeam y0.fst])
 fun (y1 : List ByteArray × List ByteArray × Bool) =>
 iteP (!y1.snd.snd)
 (R (T.tup [T.v (Value.string { data := #[] }), T.v (Value.bool false)]))
 (callK [(false, Sy.str.li)]
 (g_common
 [T.sl false (List.map Sy.str.enc y1.fst),
 T.sl false (List.map Sy.str.enc y1.snd.fst)])
 fun (y2 : List ByteArray) =>
 iteP (decide ((↑(List.map Sy.str.enc y2).length : Int) = 0))
 (R (T.tup [T.v (Value.string { data := #[] }), T.v (Value.bool true)]))
 (rowsK Sy.str (List.map Sy.str.enc y2)
 (IntKind.i64.wrap ((↑(List.map Sy.str.enc y2).length : Int) - 1)) fun (y3 : ByteArray) =>
 R (T.tup [T.v (Value.string y3), T.v (Value.bool true)]))))
theorem F_home_eq (a0 : TDesign) (a1 : ByteArray) (R : T → Prop) : sxTop stdC2 Tryz.prog E_home H_home 8 9 [encV true yDesign a0, encV false Sy.str a1] R = F_home a0 a1 R := by kernel_rfl
abbrev s_home : Sh := [(true, yDesign), (false, Sy.str)]
abbrev r_home : Sh := [(false, Sy.str), (false, Sy.bool)]
theorem r_home_call (y : Sh.den r_home) (K : Sh.den r_home → Prop) : callK r_home (some (Sh.enc r_home y)) K = K y := callK_enc rfl y K

noncomputable def g_home : List T → Option (T) := gS s_home sp_home
theorem g_home_at {a0 : TDesign} {a1 : ByteArray} : g_home [encV true yDesign a0, T.v (Value.string a1)] = sp_home (a0, a1) := gS_enc (s := s_home) rfl (a0, a1) rfl
theorem g_home_op {u0 u1 u2 u3 u4 u5 u6} : g_home [T.agg
    [T.v (Value.string u0), T.sl false (List.map yNode.enc u1),
      T.sl false (List.map yPart.enc u2),
      T.sl false (List.map ySeam.enc u3),
      T.sl false (List.map yPackage.enc u4),
      T.sl false (List.map yNeed.enc u5)],
  T.v (Value.string u6)] = sp_home ((u0, (u1, (u2, (u3, (u4, u5))))), u6) := gS_enc (s := s_home) rfl ((u0, (u1, (u2, (u3, (u4, u5))))), u6) rfl
theorem of_home (h : ∀ (a0 : TDesign) (a1 : ByteArray) (r : T), sp_home (a0, a1) = some r → BdSh s_home (a0, a1) → F_home a0 a1 (fun y => y = r)) : PureFn Tryz.prog 9 g_home :=
  pureFn_S (E := E_home) (Hs := H_home) Eok_home mixed' plain' (noHeap_of rfl) 8 ⟨_, _, Tryz.func9, rfl⟩ rfl fun x r h1 h2 => by
    obtain ⟨a0, a1⟩ := x
    rw [show Sh.encs s_home (a0, a1) = [encV true yDesign a0, encV false Sy.str a1] from rfl, F_home_eq]
    exact h a0 a1 r h1 h2

theorem fn_home : PureFn Tryz.prog 9 g_home := of_home fun d id r h hb => by
  have h' : onlyD d (Sh.enc r_sb (home d id)) = some r := h
  obtain ⟨hok, rfl⟩ := onlyD_of h'
  clear h h'
  unfold F_home
  simp only [g_seam_at, sp_seam, r_seam_call, g_ways_at, sp_ways, onlyD_ok _ hok, r_ways_call]
  unfold home
  cases hs : seamOf d id with
  | none => simp [found, iteP_t, Sh.enc, Sh.encs, encV, Sy.enc, hdT]
  | some sm =>
    simp only [found, Bool.not_true, iteP_f]
    by_cases hp : placed d sm = true
    · have hg : g_common [T.sl false (List.map Sy.str.enc (pathOf d sm.2.1)), T.sl false (List.map Sy.str.enc (pathOf d sm.2.2.1))] = some (Sh.enc r_ls (way d sm)) := by
        rw [show g_common [T.sl false (List.map Sy.str.enc (pathOf d sm.2.1)), T.sl false (List.map Sy.str.enc (pathOf d sm.2.2.1))] = sp_common (pathOf d sm.2.1, pathOf d sm.2.2.1) from g_common_at]; rfl
      rw [hp, Bool.not_true, iteP_f, hg, r_ls_call]
      by_cases h0 : (way d sm).length = 0
      · simp only [List.length_map, h0, way_nil h0]
        simp [iteP_t, Sh.enc, Sh.encs, encV, Sy.enc, hdT]
      · rw [show decide (((List.map Sy.str.enc (way d sm)).length : Int) = 0) = false by simpa using h0, iteP_f]
        exact last_at (way_len d sm) (R := fun y => y = Sh.enc r_sb (last (way d sm), true)) (by simp [Sh.enc, Sh.encs, encV, Sy.enc, hdT]) h0
    · have hp' : placed d sm = false := by simpa using hp
      have h0 : (way d sm).length = 0 := by rw [show way d sm = [] from comm_placed hp']; rfl
      rw [hp', way_nil h0]
      simp [iteP_t, Sh.enc, Sh.encs, encV, Sy.enc, hdT]
end Go.Pv
set_option linter.unusedSimpArgs false
set_option linter.unusedVariables false
namespace Go.Pv
open Go Go.RowKit Go.Proofs Go.Sort
def decI : List (List T) → Option (List Int)
  | [] => some []
  | [.v (.int .i64 i)] :: r => (decI r).map (i :: ·)
  | _ => none
theorem decI_spec : ∀ {rows : List (List T)} {l : List Int}, decI rows = some l → rows = l.map fun a => [.v (.int .i64 a)]
  | [], l, h => by cases h; rfl
  | [.v (.int .i64 i)] :: r, l, h => by
    simp only [decI, Option.map_eq_some_iff] at h
    obtain ⟨l', h1, rfl⟩ := h
    rw [decI_spec h1]; rfl
theorem decI_enc (l : List Int) : decI (List.map (Sy.int .i64).enc l) = some l := by
  induction l with
  | nil => rfl
  | cons a l ih => show (decI (List.map (Sy.int .i64).enc l)).map (a :: ·) = _; rw [ih]; rfl
def sortL (l : List Int) : List Int := l.mergeSort fun x y => decide (x ≤ y)
def g_sortI (rows : List (List T)) : Option (List (List T)) := (decI rows).map fun l => (sortL l).map fun a => [.v (.int .i64 a)]
theorem g_sortI_at (l : List Int) (K : List (List T) → Prop) : optK (List (List T)) (g_sortI (List.map (Sy.int .i64).enc l)) K = K (List.map (Sy.int .i64).enc (sortL l)) := by
  have e : g_sortI (List.map (Sy.int .i64).enc l) = some (List.map (Sy.int .i64).enc (sortL l)) := by
    unfold g_sortI; rw [decI_enc]; rfl
  rw [e]
  apply propext
  constructor
  · rintro ⟨y, h1, h2⟩; cases h1; exact h2
  · exact fun h => ⟨_, rfl, h⟩
theorem fn_sortI : HeapFn Tryz.prog 50 (gPerm 1 g_sortI) :=
  perm_sort (fun a => .int .i64 a) (fun _ => rfl) decI (fun _ _ h => decI_spec h) sortL (fun l => by simp [sortL]) ⟨_, Tryz.func50, by kernel_rfl, by kernel_rfl⟩
    (fun blk cap zs w hH hb hs => Any.slices_Sort_int Tryz.lays189 blk 0 cap zs w hH hb hs) (fun p cap w => Any.slices_Sort_int_none Tryz.lays189 p cap w)
end Go.Pv
set_option linter.unusedSimpArgs false
set_option linter.unusedVariables false
set_option maxRecDepth 100000
namespace Go.Pv
open Go Go.Proofs
def onlyC (d : TDesign) (t : T) : Option T := match okD d && light d 100 with
  | true => some t
  | false => none
theorem onlyC_of {d : TDesign} {t r : T} (h : onlyC d t = some r) : okD d = true ∧ light d 100 = true ∧ d.2.2.2.1.length ≤ 100 ∧ r = t := by
  unfold onlyC at h; split at h
  · rename_i hc
    rw [Bool.and_eq_true] at hc
    cases h
    refine ⟨hc.1, hc.2, ?_, rfl⟩
    have := hc.2
    simp only [light, Bool.and_eq_true, decide_eq_true_eq] at this
    omega
  · cases h
theorem onlyC_ok {d : TDesign} (t : T) (h : okD d = true) (h2 : light d 100 = true) : onlyC d t = some t := by unfold onlyC; rw [h, h2]; rfl
/-- The identifiers of the seams that a condition picks. -/
def picks (d : TDesign) (c : TSeam → Bool) : List ByteArray := (d.2.2.2.1.filter c).map fun s => s.1
def touchC (id : ByteArray) (s : TSeam) : Bool := decide (s.2.1 = id) || decide (s.2.2.1 = id)
def sp_touches (x : TDesign × ByteArray) : Option T := onlyC x.1 (Sh.enc r_ls (picks x.1 (touchC x.2)))
/-- What the map holds after k seams. -/
def Held (l : List TSeam) (c : TSeam → Bool) (k : Nat) (es : List (Int × ByteArray)) : Prop := es.map (fun e => e.2) = ((l.take k).filter c).map (fun s => s.1) ∧ es.Pairwise (fun a b => a.1 < b.1) ∧ (∀ e ∈ es, e.1 < (k : Int)) ∧ es.length ≤ k
theorem Held.zero (l : List TSeam) (c : TSeam → Bool) : Held l c 0 [] := ⟨by simp, by simp, by simp, by simp⟩
theorem Held.no {l : List TSeam} {c : TSeam → Bool} {k : Nat} {es : List (Int × ByteArray)} (h : Held l c k es) (hk : k < l.length) (hc : c l[k] = false) : Held l c (k + 1) es :=
  ⟨by rw [h.1, List.take_succ_eq_append_getElem hk, List.filter_append]; simp [hc], h.2.1, fun e he => by have := h.2.2.1 e he; omega, by have := h.2.2.2; omega⟩
theorem Held.yes {l : List TSeam} {c : TSeam → Bool} {k : Nat} {es : List (Int × ByteArray)} (h : Held l c k es) (hk : k < l.length) (hc : c l[k] = true) : Held l c (k + 1) (es ++ [((k : Int), l[k].1)]) :=
  ⟨by rw [List.map_append, h.1, List.take_succ_eq_append_getElem hk, List.filter_append]; simp [hc], List.pairwise_append.2 ⟨h.2.1, by simp, fun a ha b hb => by simp at hb; subst hb; exact h.2.2.1 a ha⟩, fun e he => by
    rcases List.mem_append.1 he with he | he
    · have := h.2.2.1 e he; omega
    · simp at he; subst he; simp; omega, by have := h.2.2.2; simp; omega⟩
theorem Held.new {l : List TSeam} {c : TSeam → Bool} {k : Nat} {es : List (Int × ByteArray)} (h : Held l c k es) : ∀ e ∈ es, e.1 ≠ (k : Int) := fun e he => by have := h.2.2.1 e he; omega
/-- One seam goes into the map. -/
theorem held_ins {l : List TSeam} {c : TSeam → Bool} {k : Nat} {es : List (Int × ByteArray)} (h : Held l c k es) (hk : k < l.length) (hc : c l[k] = true) (K : List (Int × ByteArray) → Prop) (hK : K (es ++ [((k : Int), l[k].1)])) :
    optK (Option (Nat × D)) (findD (TypeDesc.int IntKind.i64) (Value.int IntKind.i64 (k : Int)) (List.map (encE (Sy.int IntKind.i64) false Sy.str) es) 0)
              fun (y4 : Option (Nat × D)) =>
              decMK (Sy.int IntKind.i64) false Sy.str
                (setEnt (List.map (encE (Sy.int IntKind.i64) false Sy.str) es) y4
                  (Value.int IntKind.i64 (k : Int)) (D.p (T.v (Value.string l[k].1)))) K := by
  rw [show findD (TypeDesc.int IntKind.i64) (Value.int IntKind.i64 (k : Int)) (List.map (encE (Sy.int IntKind.i64) false Sy.str) es) 0 = some none from findI_none (r := .str) h.new, optK_some]
  rw [show setEnt (List.map (encE (Sy.int IntKind.i64) false Sy.str) es) none (Value.int IntKind.i64 (k : Int)) (D.p (T.v (Value.string l[k].1))) = List.map (eI .str) (es ++ [((k : Int), l[k].1)]) from setEnt_none (r := .str) es k l[k].1]
  exact decMK_eI (r := .str) rfl _ _ hK
theorem chosen_tail {es : List (Int × ByteArray)} (hl : es.length ≤ 100) (hp : es.Pairwise (fun a b => a.1 < b.1)) {R : T → Prop} (hR : R (T.sl false (List.map Sy.str.enc (es.map fun e => e.2)))) :
    loopK (List Int × (Nat × List Nat × Nat) × PUnit)
          (fun (X9 : List Int × (Nat × List Nat × Nat) × PUnit → Prop)
              (s10 : List Int × (Nat × List Nat × Nat) × PUnit) =>
            reqK
              (decide
                  ((List.map (encE (Sy.int IntKind.i64) false Sy.str) es).length ≤
                    s10.snd.fst.fst) &&
                decide (s10.snd.fst.fst ≤ s10.snd.fst.snd.snd))
              (eachK (List.map (encE (Sy.int IntKind.i64) false Sy.str) es).length
                s10.snd.fst.snd.fst
                (optK (List (List T))
                  (match decI (List.map (Sy.int IntKind.i64).enc s10.fst) with
                  | some x =>
                    some (List.map (fun (a : Int) => [T.v (Value.int IntKind.i64 a)]) (sortL x))
                  | none => none)
                  fun (y11 : List (List T)) =>
                  loopK (List ByteArray × Int × PUnit)
                    (fun (X12 : List ByteArray × Int × PUnit → Prop) (s13 : List ByteArray × Int × PUnit) =>
                      iteP (decide (s13.snd.fst < (↑y11.length : Int)))
                        (rowsK (Sy.int IntKind.i64) y11 s13.snd.fst fun (y14 : Int) =>
                          partK (Sy.int IntKind.i64) y11 (Int.toNat s13.snd.fst) 0 fun (y15 : Int) =>
                            findK (TypeDesc.int IntKind.i64) (Value.int IntKind.i64 y15)
                              (List.map (encE (Sy.int IntKind.i64) false Sy.str) es) false
                              Sy.str
                              (reqK
                                (decide (((List.map Sy.str.enc s13.fst).length + 1) * 16 ≤ 140737488355328) &&
                                  decide ((List.map Sy.str.enc s13.fst).length + 1 ≤ 140737488355328))
                                (decK Sy.str
                                  (List.map Sy.str.enc s13.fst ++ [[T.v (Value.string { data := #[] })]])
                                  fun (y19 : List ByteArray) => X12 (y19, IntKind.i64.wrap (s13.snd.fst + 1), ())))
                              fun (i16 : Nat) (y17 : ByteArray) =>
                              reqK
                                (decide (((List.map Sy.str.enc s13.fst).length + 1) * 16 ≤ 140737488355328) &&
                                  decide ((List.map Sy.str.enc s13.fst).length + 1 ≤ 140737488355328))
                                (decK Sy.str
                                  (List.map Sy.str.enc s13.fst ++ [[T.v (Value.string y17)]])
                                  fun (y18 : List ByteArray) => X12 (y18, IntKind.i64.wrap (s13.snd.fst + 1), ())))
                        (R (T.sl false (List.map Sy.str.enc s13.fst))))
                    ([], 0, ()))
                fun (i20 : Nat) =>
                reqK
                  (decide
                    ((List.map (encE (Sy.int IntKind.i64) false Sy.str) es).length =
                      (List.map (encE (Sy.int IntKind.i64) false Sy.str) es).length))
                  (entK (Sy.int IntKind.i64) false Sy.str
                    (List.map (encE (Sy.int IntKind.i64) false Sy.str) es)
                    (s10.snd.fst.snd.fst ++ [i20]) fun (k21 : Int) (y22 : ByteArray) =>
                    reqK
                      (decide
                          (((List.map (Sy.int IntKind.i64).enc s10.fst).length + 1) * 8 ≤ 140737488355328) &&
                        decide ((List.map (Sy.int IntKind.i64).enc s10.fst).length + 1 ≤ 140737488355328))
                      (decK (Sy.int IntKind.i64)
                        (List.map (Sy.int IntKind.i64).enc s10.fst ++
                          [[T.v (Value.int IntKind.i64 k21)]])
                        fun (y23 : List Int) =>
                        X9
                          (y23,
                            (s10.snd.fst.fst, s10.snd.fst.snd.fst ++ [i20],
                              (List.map (encE (Sy.int IntKind.i64) false Sy.str)
                                  es).length),
                            ())))))
          ([],
            ((List.map (encE (Sy.int IntKind.i64) false Sy.str) es).length, [],
              (List.map (encE (Sy.int IntKind.i64) false Sy.str) es).length),
            ()) := by
  generalize hn : (List.map (encE (Sy.int IntKind.i64) false Sy.str) es).length = n
  have hn' : es.length = n := by simpa using hn
  let key : Nat → Int := fun i => (es.map fun e => e.1).getD i 0
  have hkey : ∀ i (hi : i < es.length), key i = es[i].1 := fun i hi => by simp [key, List.getD_eq_getElem?_getD, hi]
  refine loopK_inv (fun s => ∃ seen : List Nat, s = (seen.map key, (n, seen, n), ()) ∧ seen.Nodup ∧ (∀ i ∈ seen, i < n) ∧ seen.length + (mitLeft n seen).length ≤ n) (fun s => (mitLeft n s.2.1.2.1).length) ⟨[], rfl, by simp, by simp, by rw [mitLeft_nil]; simp⟩ ?_
  rintro X s ⟨seen, rfl, hnd, hlt, hln⟩ hX
  dsimp only
  refine ⟨by simp, fun hnil => ?_, fun i hi => ⟨by simp, ?_⟩⟩
  · rw [decI_enc]
    have hkeys : sortL (seen.map key) = es.map fun e => e.1 := by
      refine sort_back (by rw [List.pairwise_map]; exact hp) ?_
      have h1 := (perm_range hnd hlt hnil).map key
      refine h1.trans (List.Perm.of_eq ?_)
      apply List.ext_getElem
      · simp [hn']
      · intro i h1 h2
        simp at h1 h2
        simp [hkey i (by omega)]
    simp only [optK_some, hkeys]
    rw [show (List.map (fun (a : Int) => [T.v (Value.int IntKind.i64 a)]) (es.map fun e => e.1)) = List.map (Sy.int .i64).enc (es.map fun e => e.1) from rfl]
    refine loopK_ix es.length (fun k s => s = ((es.map fun e => e.2).take k, (k : Int), ())) (by simp) ?_
    rintro X k s hk rfl hX
    dsimp only
    by_cases hlt : k < es.length
    · have hkl : k < (es.map fun e => e.1).length := by simpa using hlt
      refine iteP_yes (by simp [hlt]) ?_
      rw [rowsK_at (r := .int .i64) hkl, Int.toNat_natCast, partK_at (r := .int .i64) hkl]
      simp only [List.getElem_map]
      refine findK_at (r := .str) hlt hp ?_
      rw [app_ok (by simp; omega), dec_snoc]
      refine hX _ hlt ?_
      have : (es.map fun e => e.2).take (k + 1) = (es.map fun e => e.2).take k ++ [es[k].2] := by
        rw [List.take_succ_eq_append_getElem (by simpa using hlt)]; simp
      rw [this]
      simp only [Prod.mk.injEq, and_true, true_and]
      exact wrap_id _ (by omega) (by omega)
    · have : k = es.length := by omega
      subst this
      refine iteP_no (by simp) ?_
      rw [List.take_of_length_le (by simp)]
      exact hR
  · have hi' := mitLeft_mem.1 hi
    have hie : i < es.length := by omega
    have hst := mitLeft_step hi
    refine entK_eI (r := .str) hie _ ⟨?_, ?_⟩
    · simp; omega
    · rw [show (List.map (Sy.int IntKind.i64).enc (List.map key seen) ++ [[T.v (Value.int IntKind.i64 es[i].1)]]) = List.map (Sy.int IntKind.i64).enc (List.map key (seen ++ [i])) by simp [hkey i hie, Sy.enc], decK_map (r := .int .i64) rfl]
      refine hX _ ⟨seen ++ [i], rfl, ?_, ?_, ?_⟩ hst
      · rw [List.nodup_append]
        exact ⟨hnd, by simp, fun a ha b hb => by simp at hb; subst hb; exact fun e => hi'.2 (e ▸ ha)⟩
      · intro j hj
        rcases List.mem_append.1 hj with h | h
        · exact hlt j h
        · simp at h; omega
      · simp; omega
set_option maxRecDepth 100000
noncomputable def E_touches : Env := Env.of [(50, .perm 1 g_sortI)]
def H_touches : FuncId → Hint := fun f => match f == 29 with | true => ⟨fun r => match r == 3 with | true => .inv [.val 17 false (.int .i64), .map 3 (.int .i64) false .str] | false => match r == 10 with | true => .inv [.own 8 1 (.int .i64), .mit 4 (some 3)] | false => match r == 16 with | true => .inv [.own 10 1 .str, .val 44 false (.int .i64)] | false => .none, fun _ _ => none, fun r => match r == 11 with | true => some ((.int .i64), false, .str) | false => none⟩ | false => noHint
theorem Eok_touches : EnvOk Tryz.prog E_touches := EnvOk.cons (x := .perm 1 g_sortI) fn_sortI (EnvOk.nil _)
def F_touches (a0 : TDesign) (a1 : ByteArray) (R : T → Prop) : Prop :=
 decMK (Sy.int IntKind.i64) false Sy.str [] fun (y0 : List (Int × ByteArray)) =>
 loopK (Int × List (Int × ByteArray) × PUnit)
 (fun (X1 : Int × List (Int × ByteArray) × PUnit → Prop) (s2 : Int × List (Int × ByteArray) × PUnit) =>
 iteP (decide (s2.fst < (↑(List.map ySeam.enc a0.snd.snd.snd.fst).length : Int)))
 (rowsK ySeam (List.map ySeam.enc a0.snd.snd.snd.fst) s2.fst fun (y3 : TSeam) =>
 iteP (decide (y3.snd.fst = a1))
 (optK (Option (Nat × D))
 (findD (TypeDesc.int IntKind.i64) (Value.int IntKind.i64 s2.fst)
 (List.map (encE (Sy.int IntKind.i64) false Sy.str) s2.snd.fst) 0)
 fun (y4 : Option (Nat × D)) =>
 decMK (Sy.int IntKind.i64) false Sy.str
 (setEnt (List.map (encE (Sy.int IntKind.i64) false Sy.str) s2.snd.fst) y4
 (Value.int IntKind.i64 s2.fst) (D.p (T.v (Value.string y3.fst))))
 fun (y5 : List (Int × ByteArray)) => X1 (IntKind.i64.wrap (s2.fst + 1), y5, ()))
 (iteP (decide (y3.snd.snd.fst = a1))
 (optK (Option (Nat × D))
 (findD (TypeDesc.int IntKind.i64) (Value.int IntKind.i64 s2.fst)
 (List.map (encE (Sy.int IntKind.i64) false Sy.str) s2.snd.fst) 0)
 fun (y6 : Option (Nat × D)) =>
 decMK (Sy.int IntKind.i64) false Sy.str
 (setEnt (List.map (encE (Sy.int IntKind.i64) false Sy.str) s2.snd.fst) y6
 (Value.int IntKind.i64 s2.fst) (D.p (T.v (Value.string y3.fst))))
 fun (y7 : List (Int × ByteArray)) => X1 (IntKind.i64.wrap (s2.fst + 1), y7, ()))
 (decMK (Sy.int IntKind.i64) false Sy.str
 (List.map (encE (Sy.int IntKind.i64) false Sy.str) s2.snd.fst)
 fun (y8 : List (Int × ByteArray)) => X1 (IntKind.i64.wrap (s2.fst + 1), y8, ()))))
 (loopK (List Int × (Nat × List Nat × Nat) × PUnit)
 (fun (X9 : List Int × (Nat × List Nat × Nat) × PUnit → Prop)
 (s10 : List Int × (Nat × List Nat × Nat) × PUnit) =>
 reqK
 (decide
 ((List.map (encE (Sy.int IntKind.i64) false Sy.str) s2.snd.fst).length ≤
 s10.snd.fst.fst) &&
 decide (s10.snd.fst.fst ≤ s10.snd.fst.snd.snd))
 (eachK (List.map (encE (Sy.int IntKind.i64) false Sy.str) s2.snd.fst).length
 s10.snd.fst.snd.fst
 (optK (List (List T))
 (match decI (List.map (Sy.int IntKind.i64).enc s10.fst) with
 | some x =>
 some (List.map (fun (a : Int) => [T.v (Value.int IntKind.i64 a)]) (sortL x))
 | none => none)
 fun (y11 : List (List T)) =>
 loopK (List ByteArray × Int × PUnit)
 (fun (X12 : List ByteArray × Int × PUnit → Prop) (s13 : List ByteArray × Int × PUnit) =>
 iteP (decide (s13.snd.fst < (↑y11.length : Int)))
 (rowsK (Sy.int IntKind.i64) y11 s13.snd.fst fun (y14 : Int) =>
 partK (Sy.int IntKind.i64) y11 (Int.toNat s13.snd.fst) 0 fun (y15 : Int) =>
 findK (TypeDesc.int IntKind.i64) (Value.int IntKind.i64 y15)
 (List.map (encE (Sy.int IntKind.i64) false Sy.str) s2.snd.fst) false
 Sy.str
 (reqK
 (decide (((List.map Sy.str.enc s13.fst).length + 1) * 16 ≤ 140737488355328) &&
 decide ((List.map Sy.str.enc s13.fst).length + 1 ≤ 140737488355328))
 (decK Sy.str
 (List.map Sy.str.enc s13.fst ++ [[T.v (Value.string { data := #[] })]])
 fun (y19 : List ByteArray) => X12 (y19, IntKind.i64.wrap (s13.snd.fst + 1), ())))
 fun (i16 : Nat) (y17 : ByteArray) =>
 reqK
 (decide (((List.map Sy.str.enc s13.fst).length + 1) * 16 ≤ 140737488355328) &&
 decide ((List.map Sy.str.enc s13.fst).length + 1 ≤ 140737488355328))
 (decK Sy.str
 (List.map Sy.str.enc s13.fst ++ [[T.v (Value.string y17)]])
 fun (y18 : List ByteArray) => X12 (y18, IntKind.i64.wrap (s13.snd.fst + 1), ())))
 (R (T.sl false (List.map Sy.str.enc s13.fst))))
 ([], 0, ()))
 fun (i20 : Nat) =>
 reqK
 (decide
 ((List.map (encE (Sy.int IntKind.i64) false Sy.str) s2.snd.fst).length =
 (List.map (encE (Sy.int IntKind.i64) false Sy.str) s2.snd.fst).length))
 (entK (Sy.int IntKind.i64) false Sy.str
 (List.map (encE (Sy.int IntKind.i64) false Sy.str) s2.snd.fst)
 (s10.snd.fst.snd.fst ++ [i20]) fun (k21 : Int) (y22 : ByteArray) =>
 reqK
 (decide
 (((List.map (Sy.int IntKind.i64).enc s10.fst).length + 1) * 8 ≤ 140737488355328) &&
 decide ((List.map (Sy.int IntKind.i64).enc s10.fst).length + 1 ≤ 140737488355328))
 (decK (Sy.int IntKind.i64)
 (List.map (Sy.int IntKind.i64).enc s10.fst ++
 [[T.v (Value.int IntKind.i64 k21)]])
 fun (y23 : List Int) =>
 X9
 (y23,
 (s10.snd.fst.fst, s10.snd.fst.snd.fst ++ [i20],
 (List.map (encE (Sy.int IntKind.i64) false Sy.str)
 s2.snd.fst).length),
 ())))))
 ([],
 ((List.map (encE (Sy.int IntKind.i64) false Sy.str) s2.snd.fst).length, [],
 (List.map (encE (Sy.int IntKind.i64) false Sy.str) s2.snd.fst).length),
 ())))
 (0, y0, ())
theorem F_touches_eq (a0 : TDesign) (a1 : ByteArray) (R : T → Prop) : sxTop stdC2 Tryz.prog E_touches H_touches 8 14 [encV true yDesign a0, encV false Sy.str a1] R = F_touches a0 a1 R := by kernel_rfl
abbrev s_touches : Sh := [(true, yDesign), (false, Sy.str)]
abbrev r_touches : Sh := [(false, Sy.str.li)]
theorem r_touches_call (y : Sh.den r_touches) (K : Sh.den r_touches → Prop) : callK r_touches (some (Sh.enc r_touches y)) K = K y := callK_enc rfl y K

noncomputable def g_touches : List T → Option (T) := gS s_touches sp_touches
theorem g_touches_at {a0 : TDesign} {a1 : ByteArray} : g_touches [encV true yDesign a0, T.v (Value.string a1)] = sp_touches (a0, a1) := gS_enc (s := s_touches) rfl (a0, a1) rfl
theorem g_touches_op {u0 u1 u2 u3 u4 u5 u6} : g_touches [T.agg
    [T.v (Value.string u0), T.sl false (List.map yNode.enc u1),
      T.sl false (List.map yPart.enc u2),
      T.sl false (List.map ySeam.enc u3),
      T.sl false (List.map yPackage.enc u4),
      T.sl false (List.map yNeed.enc u5)],
  T.v (Value.string u6)] = sp_touches ((u0, (u1, (u2, (u3, (u4, u5))))), u6) := gS_enc (s := s_touches) rfl ((u0, (u1, (u2, (u3, (u4, u5))))), u6) rfl
theorem of_touches (h : ∀ (a0 : TDesign) (a1 : ByteArray) (r : T), sp_touches (a0, a1) = some r → BdSh s_touches (a0, a1) → F_touches a0 a1 (fun y => y = r)) : PureFn Tryz.prog 14 g_touches :=
  pureFn_S (E := E_touches) (Hs := H_touches) Eok_touches mixed' plain' (noHeap_of rfl) 8 ⟨_, _, Tryz.func14, rfl⟩ rfl fun x r h1 h2 => by
    obtain ⟨a0, a1⟩ := x
    rw [show Sh.encs s_touches (a0, a1) = [encV true yDesign a0, encV false Sy.str a1] from rfl, F_touches_eq]
    exact h a0 a1 r h1 h2

theorem fn_touches : PureFn Tryz.prog 14 g_touches := of_touches fun d id r h hb => by
  have h' : onlyC d (Sh.enc r_ls (picks d (touchC id))) = some r := h
  obtain ⟨hok, _, hl, rfl⟩ := onlyC_of h'
  clear h h'
  unfold F_touches
  refine ⟨[], rfl, ?_⟩
  refine loopK_ix d.2.2.2.1.length (fun k s => ∃ es, s = ((k : Int), es, ()) ∧ Held d.2.2.2.1 (touchC id) k es) ⟨[], rfl, Held.zero _ _⟩ ?_
  rintro X k s hk ⟨es, rfl, he⟩ hX
  dsimp only
  by_cases hlt : k < d.2.2.2.1.length
  · refine iteP_yes (by simp [hlt]) ?_
    rw [rowsK_at (r := ySeam) hlt]
    have yes : touchC id d.2.2.2.1[k] = true → X (IntKind.i64.wrap ((k : Int) + 1), es ++ [((k : Int), d.2.2.2.1[k].1)], ()) := fun hc => hX _ hlt ⟨_, by rw [show IntKind.i64.wrap ((k : Int) + 1) = ((k + 1 : Nat) : Int) from wrap_id _ (by omega) (by omega)], he.yes hlt hc⟩
    by_cases h1 : d.2.2.2.1[k].2.1 = id
    · have hc : touchC id d.2.2.2.1[k] = true := by simp [touchC, h1]
      exact iteP_yes h1 (held_ins he hlt hc _ (yes hc))
    · by_cases h2 : d.2.2.2.1[k].2.2.1 = id
      · have hc : touchC id d.2.2.2.1[k] = true := by simp [touchC, h2]
        exact iteP_no h1 (iteP_yes h2 (held_ins he hlt hc _ (yes hc)))
      · have hc : touchC id d.2.2.2.1[k] = false := by simp [touchC, h1, h2]
        refine iteP_no h1 (iteP_no h2 (decMK_eI (r := .str) rfl _ _ ?_))
        exact hX _ hlt ⟨_, by rw [show IntKind.i64.wrap ((k : Int) + 1) = ((k + 1 : Nat) : Int) from wrap_id _ (by omega) (by omega)], he.no hlt hc⟩
  · have : k = d.2.2.2.1.length := by omega
    subst this
    refine iteP_no (by simp) ?_
    refine chosen_tail (by have := he.2.2.2; omega) he.2.1 (R := fun y => y = Sh.enc r_ls (picks d (touchC id))) ?_
    rw [he.1, List.take_length]; rfl
end Go.Pv
