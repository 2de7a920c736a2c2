/-
  The lists of seams, as the reference makes them.
  What a valid design is known by; the laws of chapter 18 about valid designs: their functions, walked.
  Lemmas for the laws of chapter 18 about valid designs.
  The tree of a valid design, in plain words: ways up, paths, what two paths share.
  Seams in a valid design: their paths, what these share; the parts in a node.
  SeamLowest, SeamPlaces: walked.
-/
import Derived.Test.YtgcdkgglcloniaaGreatDoorPn2
import Derived.Test.YtgcdkgglcloniaaGreatDoorPn7
import Derived.Test.YtgcdkgglcloniaaGreatDoorPn3
import Derived.KernelRfl
import Derived.Test.YtgcdkgglcloniaaGreatDoorPn1
set_option linter.unusedSimpArgs false
set_option linter.unusedVariables false
set_option maxRecDepth 100000
namespace Go.Pv
open Go Go.Proofs
def hasS (l : List ByteArray) (x : ByteArray) : Bool := l.any fun y => decide (y = x)
def sp_contains (x : List ByteArray × ByteArray) : Option T := some (Sh.enc r_b (hasS x.1 x.2))
def sp_same (x : List ByteArray × List ByteArray) : Option T := some (Sh.enc r_b (decide (x.1 = x.2)))
def headOf (l : List ByteArray) : ByteArray := l.headD ⟨#[]⟩
def shopC (d : TDesign) (id : ByteArray) (s : TSeam) : Bool := hasS (way d s) id
def erectC (d : TDesign) (id : ByteArray) (s : TSeam) : Bool := placed d s && decide ((way d s).length = 0) && (decide (headOf (pathOf d s.2.1) = id) || decide (headOf (pathOf d s.2.2.1) = id))
def sp_shop (x : TDesign × ByteArray) : Option T := onlyC x.1 (Sh.enc r_ls (picks x.1 (shopC x.1 x.2)))
def sp_erection (x : TDesign × ByteArray) : Option T := onlyC x.1 (Sh.enc r_ls (picks x.1 (erectC x.1 x.2)))
abbrev sp_shop18 := sp_shop
abbrev sp_erection18 := sp_erection
abbrev sp_touches18 := sp_touches
set_option maxRecDepth 100000
noncomputable def E_contains : Env := Env.of []
def H_contains : FuncId → Hint := fun f => match f == 51 with | true => ⟨fun r => match r == 2 with | true => .inv [.val 8 false (.int .i64)] | false => .none, fun _ _ => none, fun _ => none⟩ | false => noHint
theorem Eok_contains : EnvOk Tryz.prog E_contains := EnvOk.nil _
def F_contains (a0 : List ByteArray) (a1 : ByteArray) (R : T → Prop) : Prop :=
 loopK (Int × PUnit)
 (fun (X0 : Int × PUnit → Prop) (s1 : Int × PUnit) =>
 iteP (decide (s1.fst < (↑(List.map Sy.str.enc a0).length : Int)))
 (rowsK Sy.str (List.map Sy.str.enc a0) s1.fst fun (y2 : ByteArray) =>
 iteP (decide (a1 = y2)) (R (T.v (Value.bool (decide (0 ≤ s1.fst)))))
 (X0 (IntKind.i64.wrap (s1.fst + 1), ())))
 (R (T.v (Value.bool false))))
 (0, ())
theorem F_contains_eq (a0 : List ByteArray) (a1 : ByteArray) (R : T → Prop) : sxTop stdC2 Tryz.prog E_contains H_contains 8 31 [encV false Sy.str.li a0, encV false Sy.str a1] R = F_contains a0 a1 R := by kernel_rfl
abbrev s_contains : Sh := [(false, Sy.str.li), (false, Sy.str)]
abbrev r_contains : Sh := [(false, Sy.bool)]
theorem r_contains_call (y : Sh.den r_contains) (K : Sh.den r_contains → Prop) : callK r_contains (some (Sh.enc r_contains y)) K = K y := callK_enc rfl y K

noncomputable def g_contains : List T → Option (T) := gS s_contains sp_contains
theorem g_contains_at {a0 : List ByteArray} {a1 : ByteArray} : g_contains [T.sl false (List.map Sy.str.enc a0), T.v (Value.string a1)] = sp_contains (a0, a1) := gS_enc (s := s_contains) rfl (a0, a1) rfl
theorem g_contains_op {u0 u1} : g_contains [T.sl false (List.map Sy.str.enc u0), T.v (Value.string u1)] = sp_contains (u0, u1) := gS_enc (s := s_contains) rfl (u0, u1) rfl
theorem of_contains (h : ∀ (a0 : List ByteArray) (a1 : ByteArray) (r : T), sp_contains (a0, a1) = some r → BdSh s_contains (a0, a1) → F_contains a0 a1 (fun y => y = r)) : PureFn Tryz.prog 31 g_contains :=
  pureFn_S (E := E_contains) (Hs := H_contains) Eok_contains mixed' plain' (noHeap_of rfl) 8 ⟨_, _, Tryz.func31, rfl⟩ rfl fun x r h1 h2 => by
    obtain ⟨a0, a1⟩ := x
    rw [show Sh.encs s_contains (a0, a1) = [encV false Sy.str.li a0, encV false Sy.str a1] from rfl, F_contains_eq]
    exact h a0 a1 r h1 h2

theorem any_drop {α : Type} {p : α → Bool} {l : List α} {k : Nat} (h : k < l.length) : (l.drop k).any p = (p l[k] || (l.drop (k + 1)).any p) := by rw [List.drop_eq_getElem_cons h, List.any_cons]
theorem fn_contains : PureFn Tryz.prog 31 g_contains := of_contains fun l x r h hb => by
  have h' : some (Sh.enc r_b (hasS l x)) = some r := h
  cases h'
  clear h
  have hl : l.length ≤ 2 ^ 47 := hb.1.1
  unfold F_contains
  refine loopK_ix l.length (fun k s => s = ((k : Int), ()) ∧ hasS l x = (l.drop k).any fun y => decide (y = x)) ⟨rfl, rfl⟩ ?_
  rintro X k s hk ⟨rfl, he⟩ hX
  dsimp only
  by_cases hlt : k < l.length
  · rw [any_drop hlt] at he
    refine iteP_yes (by simp [hlt]) ?_
    rw [rowsK_at (r := .str) hlt]
    by_cases h1 : l[k] = x
    · refine iteP_yes h1.symm ?_
      rw [he, decide_eq_true h1]
      simp [Sh.enc, encV, Sy.enc, hdT]
    · refine iteP_no (fun e => h1 e.symm) ?_
      rw [decide_eq_false h1, Bool.false_or] at he
      exact hX _ hlt ⟨by rw [show IntKind.i64.wrap ((k : Int) + 1) = ((k + 1 : Nat) : Int) from wrap_id _ (by omega) (by omega)], he⟩
  · have : k = l.length := by omega
    subst this
    refine iteP_no (by simp) ?_
    rw [he]
    simp [Sh.enc, encV, Sy.enc, hdT]
set_option maxRecDepth 100000
noncomputable def E_same : Env := Env.of []
def H_same : FuncId → Hint := fun f => match f == 22 with | true => ⟨fun r => match r == 4 with | true => .inv [.val 5 false (.int .i64)] | false => .none, fun _ _ => none, fun _ => none⟩ | false => noHint
theorem Eok_same : EnvOk Tryz.prog E_same := EnvOk.nil _
def F_same (a0 : List ByteArray) (a1 : List ByteArray) (R : T → Prop) : Prop :=
 iteP (!decide ((↑(List.map Sy.str.enc a0).length : Int) = (↑(List.map Sy.str.enc a1).length : Int)))
 (R (T.v (Value.bool false)))
 (loopK (Int × PUnit)
 (fun (X0 : Int × PUnit → Prop) (s1 : Int × PUnit) =>
 iteP (decide (s1.fst < (↑(List.map Sy.str.enc a0).length : Int)))
 (rowsK Sy.str (List.map Sy.str.enc a0) s1.fst fun (y2 : ByteArray) =>
 rowsK Sy.str (List.map Sy.str.enc a1) s1.fst fun (y3 : ByteArray) =>
 iteP (!decide (y2 = y3)) (R (T.v (Value.bool false)))
 (X0 (IntKind.i64.wrap (s1.fst + 1), ())))
 (R (T.v (Value.bool true))))
 (0, ()))
theorem F_same_eq (a0 : List ByteArray) (a1 : List ByteArray) (R : T → Prop) : sxTop stdC2 Tryz.prog E_same H_same 8 22 [encV false Sy.str.li a0, encV false Sy.str.li a1] R = F_same a0 a1 R := by kernel_rfl
abbrev s_same : Sh := [(false, Sy.str.li), (false, Sy.str.li)]
abbrev r_same : Sh := [(false, Sy.bool)]
theorem r_same_call (y : Sh.den r_same) (K : Sh.den r_same → Prop) : callK r_same (some (Sh.enc r_same y)) K = K y := callK_enc rfl y K

noncomputable def g_same : List T → Option (T) := gS s_same sp_same
theorem g_same_at {a0 : List ByteArray} {a1 : List ByteArray} : g_same [T.sl false (List.map Sy.str.enc a0), T.sl false (List.map Sy.str.enc a1)] = sp_same (a0, a1) := gS_enc (s := s_same) rfl (a0, a1) rfl
theorem g_same_op {u0 u1} : g_same [T.sl false (List.map Sy.str.enc u0), T.sl false (List.map Sy.str.enc u1)] = sp_same (u0, u1) := gS_enc (s := s_same) rfl (u0, u1) rfl
theorem of_same (h : ∀ (a0 : List ByteArray) (a1 : List ByteArray) (r : T), sp_same (a0, a1) = some r → BdSh s_same (a0, a1) → F_same a0 a1 (fun y => y = r)) : PureFn Tryz.prog 22 g_same :=
  pureFn_S (E := E_same) (Hs := H_same) Eok_same mixed' plain' (noHeap_of rfl) 8 ⟨_, _, Tryz.func22, rfl⟩ rfl fun x r h1 h2 => by
    obtain ⟨a0, a1⟩ := x
    rw [show Sh.encs s_same (a0, a1) = [encV false Sy.str.li a0, encV false Sy.str.li a1] from rfl, F_same_eq]
    exact h a0 a1 r h1 h2

theorem fn_same : PureFn Tryz.prog 22 g_same := of_same fun a b r h hb => by
  have h' : some (Sh.enc r_b (decide (a = b))) = some r := h
  cases h'
  clear h
  have hl : a.length ≤ 2 ^ 47 := hb.1.1
  unfold F_same
  by_cases hlen : a.length = b.length
  · rw [show (!decide ((↑(List.map Sy.str.enc a).length : Int) = (↑(List.map Sy.str.enc b).length : Int))) = false by simp [hlen], iteP_f]
    refine loopK_ix a.length (fun k s => s = ((k : Int), ()) ∧ (a = b ↔ a.drop k = b.drop k)) ⟨rfl, by simp⟩ ?_
    rintro X k s hk ⟨rfl, he⟩ hX
    dsimp only
    by_cases hlt : k < a.length
    · have hlt2 : k < b.length := by omega
      refine iteP_yes (by simp [hlt]) ?_
      rw [rowsK_at (r := .str) hlt, rowsK_at (r := .str) hlt2]
      rw [List.drop_eq_getElem_cons hlt, List.drop_eq_getElem_cons hlt2, List.cons.injEq] at he
      by_cases h1 : a[k] = b[k]
      · rw [show (!decide (a[k] = b[k])) = false by simp [h1], iteP_f]
        refine hX _ hlt ⟨by rw [show IntKind.i64.wrap ((k : Int) + 1) = ((k + 1 : Nat) : Int) from wrap_id _ (by omega) (by omega)], ?_⟩
        rw [he]; exact ⟨fun h => h.2, fun h => ⟨h1, h⟩⟩
      · rw [show (!decide (a[k] = b[k])) = true by simp [h1], iteP_t]
        have : ¬ a = b := fun h => h1 (he.1 h).1
        simp [this, Sh.enc, encV, Sy.enc, hdT]
    · have : k = a.length := by omega
      subst this
      refine iteP_no (by simp) ?_
      have : a = b := he.2 (by rw [List.drop_length, hlen, List.drop_length])
      simp [this, Sh.enc, encV, Sy.enc, hdT]
  · rw [show (!decide ((↑(List.map Sy.str.enc a).length : Int) = (↑(List.map Sy.str.enc b).length : Int))) = true by simp; omega, iteP_t]
    have : ¬ a = b := fun h => hlen (by rw [h])
    simp [this, Sh.enc, encV, Sy.enc, hdT]
/-- What the reference has found after k seams. -/
def pk (l : List TSeam) (c : TSeam → Bool) (k : Nat) : List ByteArray := ((l.take k).filter c).map fun s => s.1
theorem pk_yes {l : List TSeam} {c : TSeam → Bool} {k : Nat} (hk : k < l.length) (hc : c l[k] = true) : pk l c (k + 1) = pk l c k ++ [l[k].1] := by
  unfold pk; rw [List.take_succ_eq_append_getElem hk, List.filter_append]; simp [hc]
theorem pk_no {l : List TSeam} {c : TSeam → Bool} {k : Nat} (hk : k < l.length) (hc : c l[k] = false) : pk l c (k + 1) = pk l c k := by
  unfold pk; rw [List.take_succ_eq_append_getElem hk, List.filter_append]; simp [hc]
theorem pk_len {l : List TSeam} {c : TSeam → Bool} {k : Nat} : (pk l c k).length ≤ k := by
  unfold pk; have := List.length_filter_le c (l.take k); simp at this ⊢; omega
theorem pk_end {d : TDesign} {c : TSeam → Bool} : pk d.2.2.2.1 c d.2.2.2.1.length = picks d c := by unfold pk picks; rw [List.take_length]
/-- One more, or none. -/
theorem pk_add {l : List TSeam} {c : TSeam → Bool} {k : Nat} {X : List ByteArray × Int × PUnit → Prop} (hk : k < l.length) (h100 : l.length ≤ 100) (hc : c l[k] = true) (hX : X (pk l c (k + 1), ((k + 1 : Nat) : Int), ())) :
    rowsK ySeam (List.map ySeam.enc l) (k : Int) fun (y3 : TSeam) =>
            reqK
              (decide (((List.map Sy.str.enc (pk l c k)).length + 1) * 16 ≤ 140737488355328) &&
                decide ((List.map Sy.str.enc (pk l c k)).length + 1 ≤ 140737488355328))
              (decK Sy.str (List.map Sy.str.enc (pk l c k) ++ [[T.v (Value.string y3.fst)]])
                fun (y4 : List ByteArray) => X (y4, IntKind.i64.wrap ((k : Int) + 1), ())) := by
  have := pk_len (l := l) (c := c) (k := k)
  rw [rowsK_at (r := ySeam) hk, app_ok (by omega), dec_snoc, ← pk_yes hk hc, show IntKind.i64.wrap ((k : Int) + 1) = ((k + 1 : Nat) : Int) from wrap_id _ (by omega) (by omega)]
  exact hX
theorem pk_none {l : List TSeam} {c : TSeam → Bool} {k : Nat} {X : List ByteArray × Int × PUnit → Prop} (hk : k < l.length) (h100 : l.length ≤ 100) (hc : c l[k] = false) (hX : X (pk l c (k + 1), ((k + 1 : Nat) : Int), ())) :
    decK Sy.str (List.map Sy.str.enc (pk l c k)) fun (y8 : List ByteArray) => X (y8, IntKind.i64.wrap ((k : Int) + 1), ()) := by
  rw [decK_map (r := .str) rfl, ← pk_no hk hc, show IntKind.i64.wrap ((k : Int) + 1) = ((k + 1 : Nat) : Int) from wrap_id _ (by omega) (by omega)]
  exact hX
theorem head_at {l : List ByteArray} (h : 0 < l.length) (K : ByteArray → Prop) (hK : K (headOf l)) : rowsK Sy.str (List.map Sy.str.enc l) 0 K := by
  have e : rowsK Sy.str (List.map Sy.str.enc l) ((0 : Nat) : Int) K = K l[0] := rowsK_at (r := .str) h K
  have e2 : headOf l = l[0] := by cases l with
    | nil => simp at h
    | cons a l => rfl
  rw [e2] at hK
  rw [← e] at hK
  exact hK
theorem placed_len {d : TDesign} {s : TSeam} (h : placed d s = true) : 0 < (pathOf d s.2.1).length ∧ 0 < (pathOf d s.2.2.1).length := by
  simpa [placed, placedB] using h
set_option maxRecDepth 100000
noncomputable def E_shop : Env := Env.of [(50, .perm 1 g_sortI), (24, .pure g_ways), (25, .pure g_common), (31, .pure g_contains)]
def H_shop : FuncId → Hint := fun f => match f == 29 with | true => ⟨fun r => match r == 3 with | true => .inv [.val 17 false (.int .i64), .map 3 (.int .i64) false .str] | false => match r == 10 with | true => .inv [.own 8 1 (.int .i64), .mit 4 (some 3)] | false => match r == 16 with | true => .inv [.own 10 1 .str, .val 44 false (.int .i64)] | false => .none, fun _ _ => none, fun r => match r == 11 with | true => some ((.int .i64), false, .str) | false => none⟩ | false => noHint
theorem Eok_shop : EnvOk Tryz.prog E_shop := EnvOk.cons (x := .perm 1 g_sortI) fn_sortI (EnvOk.cons (x := .pure g_ways) fn_ways (EnvOk.cons (x := .pure g_common) fn_common (EnvOk.cons (x := .pure g_contains) fn_contains (EnvOk.nil _))))
def F_shop (a0 : TDesign) (a1 : ByteArray) (R : T → Prop) : Prop :=
 decMK (Sy.int IntKind.i64) false Sy.str [] fun (y0 : List (Int × ByteArray)) =>
 loopK (Int × List (Int × ByteArray) × PUnit)
 (fun (X1 : Int × List (Int × ByteArray) × PUnit → Prop) (s2 : Int × List (Int × ByteArray) × PUnit) =>
 iteP (decide (s2.fst < (↑(List.map ySeam.enc a0.snd.snd.snd.fst).length : Int)))
 (rowsK ySeam (List.map ySeam.enc a0.snd.snd.snd.fst) s2.fst fun (y3 : TSeam) =>
 callK [(false, Sy.str.li), (false, Sy.str.li), (false, Sy.bool)]
 (g_ways [encV true yDesign a0, encV true ySeam y3])
 fun (y4 : List ByteArray × List ByteArray × Bool) =>
 iteP y4.snd.snd
 (callK [(false, Sy.str.li)]
 (g_common
 [T.sl false (List.map Sy.str.enc y4.fst),
 T.sl false (List.map Sy.str.enc y4.snd.fst)])
 fun (y5 : List ByteArray) =>
 callK [(false, Sy.bool)]
 (g_contains [T.sl false (List.map Sy.str.enc y5), T.v (Value.string a1)])
 fun (y6 : Bool) =>
 iteP y6
 (optK (Option (Nat × D))
 (findD (TypeDesc.int IntKind.i64) (Value.int IntKind.i64 s2.fst)
 (List.map (encE (Sy.int IntKind.i64) false Sy.str) s2.snd.fst) 0)
 fun (y7 : Option (Nat × D)) =>
 decMK (Sy.int IntKind.i64) false Sy.str
 (setEnt
 (List.map (encE (Sy.int IntKind.i64) false Sy.str) s2.snd.fst) y7
 (Value.int IntKind.i64 s2.fst) (D.p (T.v (Value.string y3.fst))))
 fun (y8 : List (Int × ByteArray)) => X1 (IntKind.i64.wrap (s2.fst + 1), y8, ()))
 (decMK (Sy.int IntKind.i64) false Sy.str
 (List.map (encE (Sy.int IntKind.i64) false Sy.str) s2.snd.fst)
 fun (y9 : List (Int × ByteArray)) => X1 (IntKind.i64.wrap (s2.fst + 1), y9, ())))
 (decMK (Sy.int IntKind.i64) false Sy.str
 (List.map (encE (Sy.int IntKind.i64) false Sy.str) s2.snd.fst)
 fun (y10 : List (Int × ByteArray)) => X1 (IntKind.i64.wrap (s2.fst + 1), y10, ())))
 (loopK (List Int × (Nat × List Nat × Nat) × PUnit)
 (fun (X11 : List Int × (Nat × List Nat × Nat) × PUnit → Prop)
 (s12 : List Int × (Nat × List Nat × Nat) × PUnit) =>
 reqK
 (decide
 ((List.map (encE (Sy.int IntKind.i64) false Sy.str) s2.snd.fst).length ≤
 s12.snd.fst.fst) &&
 decide (s12.snd.fst.fst ≤ s12.snd.fst.snd.snd))
 (eachK (List.map (encE (Sy.int IntKind.i64) false Sy.str) s2.snd.fst).length
 s12.snd.fst.snd.fst
 (optK (List (List T))
 (match decI (List.map (Sy.int IntKind.i64).enc s12.fst) with
 | some x =>
 some (List.map (fun (a : Int) => [T.v (Value.int IntKind.i64 a)]) (sortL x))
 | none => none)
 fun (y13 : List (List T)) =>
 loopK (List ByteArray × Int × PUnit)
 (fun (X14 : List ByteArray × Int × PUnit → Prop) (s15 : List ByteArray × Int × PUnit) =>
 iteP (decide (s15.snd.fst < (↑y13.length : Int)))
 (rowsK (Sy.int IntKind.i64) y13 s15.snd.fst fun (y16 : Int) =>
 partK (Sy.int IntKind.i64) y13 (Int.toNat s15.snd.fst) 0 fun (y17 : Int) =>
 findK (TypeDesc.int IntKind.i64) (Value.int IntKind.i64 y17)
 (List.map (encE (Sy.int IntKind.i64) false Sy.str) s2.snd.fst) false
 Sy.str
 (reqK
 (decide (((List.map Sy.str.enc s15.fst).length + 1) * 16 ≤ 140737488355328) &&
 decide ((List.map Sy.str.enc s15.fst).length + 1 ≤ 140737488355328))
 (decK Sy.str
 (List.map Sy.str.enc s15.fst ++ [[T.v (Value.string { data := #[] })]])
 fun (y21 : List ByteArray) => X14 (y21, IntKind.i64.wrap (s15.snd.fst + 1), ())))
 fun (i18 : Nat) (y19 : ByteArray) =>
 reqK
 (decide (((List.map Sy.str.enc s15.fst).length + 1) * 16 ≤ 140737488355328) &&
 decide ((List.map Sy.str.enc s15.fst).length + 1 ≤ 140737488355328))
 (decK Sy.str
 (List.map Sy.str.enc s15.fst ++ [[T.v (Value.string y19)]])
 fun (y20 : List ByteArray) => X14 (y20, IntKind.i64.wrap (s15.snd.fst + 1), ())))
 (R (T.sl false (List.map Sy.str.enc s15.fst))))
 ([], 0, ()))
 fun (i22 : Nat) =>
 reqK
 (decide
 ((List.map (encE (Sy.int IntKind.i64) false Sy.str) s2.snd.fst).length =
 (List.map (encE (Sy.int IntKind.i64) false Sy.str) s2.snd.fst).length))
 (entK (Sy.int IntKind.i64) false Sy.str
 (List.map (encE (Sy.int IntKind.i64) false Sy.str) s2.snd.fst)
 (s12.snd.fst.snd.fst ++ [i22]) fun (k23 : Int) (y24 : ByteArray) =>
 reqK
 (decide
 (((List.map (Sy.int IntKind.i64).enc s12.fst).length + 1) * 8 ≤ 140737488355328) &&
 decide ((List.map (Sy.int IntKind.i64).enc s12.fst).length + 1 ≤ 140737488355328))
 (decK (Sy.int IntKind.i64)
 (List.map (Sy.int IntKind.i64).enc s12.fst ++
 [[T.v (Value.int IntKind.i64 k23)]])
 fun (y25 : List Int) =>
 X11
 (y25,
 (s12.snd.fst.fst, s12.snd.fst.snd.fst ++ [i22],
 (List.map (encE (Sy.int IntKind.i64) false Sy.str)
 s2.snd.fst).length),
 ())))))
 ([],
 ((List.map (encE (Sy.int IntKind.i64) false Sy.str) s2.snd.fst).length, [],
 (List.map (encE (Sy.int IntKind.i64) false Sy.str) s2.snd.fst).length),
 ())))
 (0, y0, ())
theorem F_shop_eq (a0 : TDesign) (a1 : ByteArray) (R : T → Prop) : sxTop stdC2 Tryz.prog E_shop H_shop 8 12 [encV true yDesign a0, encV false Sy.str a1] R = F_shop a0 a1 R := by kernel_rfl
abbrev s_shop : Sh := [(true, yDesign), (false, Sy.str)]
abbrev r_shop : Sh := [(false, Sy.str.li)]
theorem r_shop_call (y : Sh.den r_shop) (K : Sh.den r_shop → Prop) : callK r_shop (some (Sh.enc r_shop y)) K = K y := callK_enc rfl y K

noncomputable def g_shop : List T → Option (T) := gS s_shop sp_shop
theorem g_shop_at {a0 : TDesign} {a1 : ByteArray} : g_shop [encV true yDesign a0, T.v (Value.string a1)] = sp_shop (a0, a1) := gS_enc (s := s_shop) rfl (a0, a1) rfl
theorem g_shop_op {u0 u1 u2 u3 u4 u5 u6} : g_shop [T.agg
    [T.v (Value.string u0), T.sl false (List.map yNode.enc u1),
      T.sl false (List.map yPart.enc u2),
      T.sl false (List.map ySeam.enc u3),
      T.sl false (List.map yPackage.enc u4),
      T.sl false (List.map yNeed.enc u5)],
  T.v (Value.string u6)] = sp_shop ((u0, (u1, (u2, (u3, (u4, u5))))), u6) := gS_enc (s := s_shop) rfl ((u0, (u1, (u2, (u3, (u4, u5))))), u6) rfl
theorem of_shop (h : ∀ (a0 : TDesign) (a1 : ByteArray) (r : T), sp_shop (a0, a1) = some r → BdSh s_shop (a0, a1) → F_shop a0 a1 (fun y => y = r)) : PureFn Tryz.prog 12 g_shop :=
  pureFn_S (E := E_shop) (Hs := H_shop) Eok_shop mixed' plain' (noHeap_of rfl) 8 ⟨_, _, Tryz.func12, rfl⟩ rfl fun x r h1 h2 => by
    obtain ⟨a0, a1⟩ := x
    rw [show Sh.encs s_shop (a0, a1) = [encV true yDesign a0, encV false Sy.str a1] from rfl, F_shop_eq]
    exact h a0 a1 r h1 h2

theorem fn_shop : PureFn Tryz.prog 12 g_shop := of_shop fun d id r h hb => by
  have h' : onlyC d (Sh.enc r_ls (picks d (shopC d id))) = some r := h
  obtain ⟨hok, _, hl, rfl⟩ := onlyC_of h'
  clear h h'
  unfold F_shop
  refine ⟨[], rfl, ?_⟩
  refine loopK_ix d.2.2.2.1.length (fun k s => ∃ es, s = ((k : Int), es, ()) ∧ Held d.2.2.2.1 (shopC d id) k es) ⟨[], rfl, Held.zero _ _⟩ ?_
  rintro X k s hk ⟨es, rfl, he⟩ hX
  dsimp only
  by_cases hlt : k < d.2.2.2.1.length
  · refine iteP_yes (by simp [hlt]) ?_
    rw [rowsK_at (r := ySeam) hlt]
    have hw : IntKind.i64.wrap ((k : Int) + 1) = ((k + 1 : Nat) : Int) := wrap_id _ (by omega) (by omega)
    have yes := fun (hc : (shopC d id) d.2.2.2.1[k] = true) => held_ins he hlt hc (fun y => X (IntKind.i64.wrap ((k : Int) + 1), y, ())) (hX _ hlt ⟨_, by rw [hw], he.yes hlt hc⟩)
    have no := fun (hc : (shopC d id) d.2.2.2.1[k] = false) => decMK_eI (r := .str) rfl es (fun y => X (IntKind.i64.wrap ((k : Int) + 1), y, ())) (hX _ hlt ⟨_, by rw [hw], he.no hlt hc⟩)
    refine callK_some (s := r_lslsb) (y := (pathOf d d.2.2.2.1[k].2.1, pathOf d d.2.2.2.1[k].2.2.1, placed d d.2.2.2.1[k])) (by rw [g_ways_at, sp_ways, onlyD_ok _ hok]) ?_
    dsimp only
    cases hp : placed d d.2.2.2.1[k] with
    | false =>
      rw [iteP_f]
      exact no (by rw [shopC, show way d d.2.2.2.1[k] = [] from comm_placed hp]; rfl)
    | true =>
      obtain ⟨ha, hb⟩ := placed_len hp
      rw [iteP_t]
      refine callK_some (s := r_ls) (y := way d d.2.2.2.1[k]) g_common_at ?_
      refine callK_some (s := r_b) (y := hasS (way d d.2.2.2.1[k]) id) g_contains_at ?_
      cases hf : hasS (way d d.2.2.2.1[k]) id with
      | true => rw [iteP_t]; exact yes hf
      | false => rw [iteP_f]; exact no hf
  · have : k = d.2.2.2.1.length := by omega
    subst this
    refine iteP_no (by simp) ?_
    refine chosen_tail (by have := he.2.2.2; omega) he.2.1 (R := fun y => y = Sh.enc r_ls (picks d (shopC d id))) ?_
    rw [he.1, List.take_length]; rfl
set_option maxRecDepth 100000
noncomputable def E_erection : Env := Env.of [(50, .perm 1 g_sortI), (24, .pure g_ways), (25, .pure g_common)]
def H_erection : FuncId → Hint := fun f => match f == 29 with | true => ⟨fun r => match r == 3 with | true => .inv [.val 17 false (.int .i64), .map 3 (.int .i64) false .str] | false => match r == 10 with | true => .inv [.own 8 1 (.int .i64), .mit 4 (some 3)] | false => match r == 16 with | true => .inv [.own 10 1 .str, .val 44 false (.int .i64)] | false => .none, fun _ _ => none, fun r => match r == 11 with | true => some ((.int .i64), false, .str) | false => none⟩ | false => noHint
theorem Eok_erection : EnvOk Tryz.prog E_erection := EnvOk.cons (x := .perm 1 g_sortI) fn_sortI (EnvOk.cons (x := .pure g_ways) fn_ways (EnvOk.cons (x := .pure g_common) fn_common (EnvOk.nil _)))
def F_erection (a0 : TDesign) (a1 : ByteArray) (R : T → Prop) : Prop :=
 decMK (Sy.int IntKind.i64) false Sy.str [] fun (y0 : List (Int × ByteArray)) =>
 loopK (Int × List (Int × ByteArray) × PUnit)
 (fun (X1 : Int × List (Int × ByteArray) × PUnit → Prop) (s2 : Int × List (Int × ByteArray) × PUnit) =>
 iteP (decide (s2.fst < (↑(List.map ySeam.enc a0.snd.snd.snd.fst).length : Int)))
 (rowsK ySeam (List.map ySeam.enc a0.snd.snd.snd.fst) s2.fst fun (y3 : TSeam) =>
 callK [(false, Sy.str.li), (false, Sy.str.li), (false, Sy.bool)]
 (g_ways [encV true yDesign a0, encV true ySeam y3])
 fun (y4 : List ByteArray × List ByteArray × Bool) =>
 iteP y4.snd.snd
 (callK [(false, Sy.str.li)]
 (g_common
 [T.sl false (List.map Sy.str.enc y4.fst),
 T.sl false (List.map Sy.str.enc y4.snd.fst)])
 fun (y5 : List ByteArray) =>
 iteP (decide ((↑(List.map Sy.str.enc y5).length : Int) = 0))
 (rowsK Sy.str (List.map Sy.str.enc y4.fst) 0 fun (y6 : ByteArray) =>
 iteP (decide (y6 = a1))
 (optK (Option (Nat × D))
 (findD (TypeDesc.int IntKind.i64) (Value.int IntKind.i64 s2.fst)
 (List.map (encE (Sy.int IntKind.i64) false Sy.str) s2.snd.fst) 0)
 fun (y7 : Option (Nat × D)) =>
 decMK (Sy.int IntKind.i64) false Sy.str
 (setEnt
 (List.map (encE (Sy.int IntKind.i64) false Sy.str) s2.snd.fst) y7
 (Value.int IntKind.i64 s2.fst) (D.p (T.v (Value.string y3.fst))))
 fun (y8 : List (Int × ByteArray)) => X1 (IntKind.i64.wrap (s2.fst + 1), y8, ()))
 (rowsK Sy.str (List.map Sy.str.enc y4.snd.fst) 0 fun (y9 : ByteArray) =>
 iteP (decide (y9 = a1))
 (optK (Option (Nat × D))
 (findD (TypeDesc.int IntKind.i64) (Value.int IntKind.i64 s2.fst)
 (List.map (encE (Sy.int IntKind.i64) false Sy.str) s2.snd.fst) 0)
 fun (y10 : Option (Nat × D)) =>
 decMK (Sy.int IntKind.i64) false Sy.str
 (setEnt
 (List.map (encE (Sy.int IntKind.i64) false Sy.str) s2.snd.fst) y10
 (Value.int IntKind.i64 s2.fst) (D.p (T.v (Value.string y3.fst))))
 fun (y11 : List (Int × ByteArray)) => X1 (IntKind.i64.wrap (s2.fst + 1), y11, ()))
 (decMK (Sy.int IntKind.i64) false Sy.str
 (List.map (encE (Sy.int IntKind.i64) false Sy.str) s2.snd.fst)
 fun (y12 : List (Int × ByteArray)) => X1 (IntKind.i64.wrap (s2.fst + 1), y12, ()))))
 (decMK (Sy.int IntKind.i64) false Sy.str
 (List.map (encE (Sy.int IntKind.i64) false Sy.str) s2.snd.fst)
 fun (y13 : List (Int × ByteArray)) => X1 (IntKind.i64.wrap (s2.fst + 1), y13, ())))
 (decMK (Sy.int IntKind.i64) false Sy.str
 (List.map (encE (Sy.int IntKind.i64) false Sy.str) s2.snd.fst)
 fun (y14 : List (Int × ByteArray)) => X1 (IntKind.i64.wrap (s2.fst + 1), y14, ())))
 (loopK (List Int × (Nat × List Nat × Nat) × PUnit)
 (fun (X15 : List Int × (Nat × List Nat × Nat) × PUnit → Prop)
 (s16 : List Int × (Nat × List Nat × Nat) × PUnit) =>
 reqK
 (decide
 ((List.map (encE (Sy.int IntKind.i64) false Sy.str) s2.snd.fst).length ≤
 s16.snd.fst.fst) &&
 decide (s16.snd.fst.fst ≤ s16.snd.fst.snd.snd))
 (eachK (List.map (encE (Sy.int IntKind.i64) false Sy.str) s2.snd.fst).length
 s16.snd.fst.snd.fst
 (optK (List (List T))
 (match decI (List.map (Sy.int IntKind.i64).enc s16.fst) with
 | some x =>
 some (List.map (fun (a : Int) => [T.v (Value.int IntKind.i64 a)]) (sortL x))
 | none => none)
 fun (y17 : List (List T)) =>
 loopK (List ByteArray × Int × PUnit)
 (fun (X18 : List ByteArray × Int × PUnit → Prop) (s19 : List ByteArray × Int × PUnit) =>
 iteP (decide (s19.snd.fst < (↑y17.length : Int)))
 (rowsK (Sy.int IntKind.i64) y17 s19.snd.fst fun (y20 : Int) =>
 partK (Sy.int IntKind.i64) y17 (Int.toNat s19.snd.fst) 0 fun (y21 : Int) =>
 findK (TypeDesc.int IntKind.i64) (Value.int IntKind.i64 y21)
 (List.map (encE (Sy.int IntKind.i64) false Sy.str) s2.snd.fst) false
 Sy.str
 (reqK
 (decide (((List.map Sy.str.enc s19.fst).length + 1) * 16 ≤ 140737488355328) &&
 decide ((List.map Sy.str.enc s19.fst).length + 1 ≤ 140737488355328))
 (decK Sy.str
 (List.map Sy.str.enc s19.fst ++ [[T.v (Value.string { data := #[] })]])
 fun (y25 : List ByteArray) => X18 (y25, IntKind.i64.wrap (s19.snd.fst + 1), ())))
 fun (i22 : Nat) (y23 : ByteArray) =>
 reqK
 (decide (((List.map Sy.str.enc s19.fst).length + 1) * 16 ≤ 140737488355328) &&
 decide ((List.map Sy.str.enc s19.fst).length + 1 ≤ 140737488355328))
 (decK Sy.str
 (List.map Sy.str.enc s19.fst ++ [[T.v (Value.string y23)]])
 fun (y24 : List ByteArray) => X18 (y24, IntKind.i64.wrap (s19.snd.fst + 1), ())))
 (R (T.sl false (List.map Sy.str.enc s19.fst))))
 ([], 0, ()))
 fun (i26 : Nat) =>
 reqK
 (decide
 ((List.map (encE (Sy.int IntKind.i64) false Sy.str) s2.snd.fst).length =
 (List.map (encE (Sy.int IntKind.i64) false Sy.str) s2.snd.fst).length))
 (entK (Sy.int IntKind.i64) false Sy.str
 (List.map (encE (Sy.int IntKind.i64) false Sy.str) s2.snd.fst)
 (s16.snd.fst.snd.fst ++ [i26]) fun (k27 : Int) (y28 : ByteArray) =>
 reqK
 (decide
 (((List.map (Sy.int IntKind.i64).enc s16.fst).length + 1) * 8 ≤ 140737488355328) &&
 decide ((List.map (Sy.int IntKind.i64).enc s16.fst).length + 1 ≤ 140737488355328))
 (decK (Sy.int IntKind.i64)
 (List.map (Sy.int IntKind.i64).enc s16.fst ++
 [[T.v (Value.int IntKind.i64 k27)]])
 fun (y29 : List Int) =>
 X15
 (y29,
 (s16.snd.fst.fst, s16.snd.fst.snd.fst ++ [i26],
 (List.map (encE (Sy.int IntKind.i64) false Sy.str)
 s2.snd.fst).length),
 ())))))
 ([],
 ((List.map (encE (Sy.int IntKind.i64) false Sy.str) s2.snd.fst).length, [],
 (List.map (encE (Sy.int IntKind.i64) false Sy.str) s2.snd.fst).length),
 ())))
 (0, y0, ())
theorem F_erection_eq (a0 : TDesign) (a1 : ByteArray) (R : T → Prop) : sxTop stdC2 Tryz.prog E_erection H_erection 8 13 [encV true yDesign a0, encV false Sy.str a1] R = F_erection a0 a1 R := by kernel_rfl
abbrev s_erection : Sh := [(true, yDesign), (false, Sy.str)]
abbrev r_erection : Sh := [(false, Sy.str.li)]
theorem r_erection_call (y : Sh.den r_erection) (K : Sh.den r_erection → Prop) : callK r_erection (some (Sh.enc r_erection y)) K = K y := callK_enc rfl y K

noncomputable def g_erection : List T → Option (T) := gS s_erection sp_erection
theorem g_erection_at {a0 : TDesign} {a1 : ByteArray} : g_erection [encV true yDesign a0, T.v (Value.string a1)] = sp_erection (a0, a1) := gS_enc (s := s_erection) rfl (a0, a1) rfl
theorem g_erection_op {u0 u1 u2 u3 u4 u5 u6} : g_erection [T.agg
    [T.v (Value.string u0), T.sl false (List.map yNode.enc u1),
      T.sl false (List.map yPart.enc u2),
      T.sl false (List.map ySeam.enc u3),
      T.sl false (List.map yPackage.enc u4),
      T.sl false (List.map yNeed.enc u5)],
  T.v (Value.string u6)] = sp_erection ((u0, (u1, (u2, (u3, (u4, u5))))), u6) := gS_enc (s := s_erection) rfl ((u0, (u1, (u2, (u3, (u4, u5))))), u6) rfl
theorem of_erection (h : ∀ (a0 : TDesign) (a1 : ByteArray) (r : T), sp_erection (a0, a1) = some r → BdSh s_erection (a0, a1) → F_erection a0 a1 (fun y => y = r)) : PureFn Tryz.prog 13 g_erection :=
  pureFn_S (E := E_erection) (Hs := H_erection) Eok_erection mixed' plain' (noHeap_of rfl) 8 ⟨_, _, Tryz.func13, rfl⟩ rfl fun x r h1 h2 => by
    obtain ⟨a0, a1⟩ := x
    rw [show Sh.encs s_erection (a0, a1) = [encV true yDesign a0, encV false Sy.str a1] from rfl, F_erection_eq]
    exact h a0 a1 r h1 h2

theorem fn_erection : PureFn Tryz.prog 13 g_erection := of_erection fun d id r h hb => by
  have h' : onlyC d (Sh.enc r_ls (picks d (erectC d id))) = some r := h
  obtain ⟨hok, _, hl, rfl⟩ := onlyC_of h'
  clear h h'
  unfold F_erection
  refine ⟨[], rfl, ?_⟩
  refine loopK_ix d.2.2.2.1.length (fun k s => ∃ es, s = ((k : Int), es, ()) ∧ Held d.2.2.2.1 (erectC d id) k es) ⟨[], rfl, Held.zero _ _⟩ ?_
  rintro X k s hk ⟨es, rfl, he⟩ hX
  dsimp only
  by_cases hlt : k < d.2.2.2.1.length
  · refine iteP_yes (by simp [hlt]) ?_
    rw [rowsK_at (r := ySeam) hlt]
    have hw : IntKind.i64.wrap ((k : Int) + 1) = ((k + 1 : Nat) : Int) := wrap_id _ (by omega) (by omega)
    have yes := fun (hc : (erectC d id) d.2.2.2.1[k] = true) => held_ins he hlt hc (fun y => X (IntKind.i64.wrap ((k : Int) + 1), y, ())) (hX _ hlt ⟨_, by rw [hw], he.yes hlt hc⟩)
    have no := fun (hc : (erectC d id) d.2.2.2.1[k] = false) => decMK_eI (r := .str) rfl es (fun y => X (IntKind.i64.wrap ((k : Int) + 1), y, ())) (hX _ hlt ⟨_, by rw [hw], he.no hlt hc⟩)
    refine callK_some (s := r_lslsb) (y := (pathOf d d.2.2.2.1[k].2.1, pathOf d d.2.2.2.1[k].2.2.1, placed d d.2.2.2.1[k])) (by rw [g_ways_at, sp_ways, onlyD_ok _ hok]) ?_
    dsimp only
    cases hp : placed d d.2.2.2.1[k] with
    | false =>
      rw [iteP_f]
      exact no (by simp [erectC, hp])
    | true =>
      obtain ⟨ha, hb⟩ := placed_len hp
      rw [iteP_t]
      refine callK_some (s := r_ls) (y := way d d.2.2.2.1[k]) g_common_at ?_
      by_cases h0 : (way d d.2.2.2.1[k]).length = 0
      · refine iteP_yes (by simp [h0]) ?_
        refine head_at ha _ ?_
        by_cases h1 : headOf (pathOf d d.2.2.2.1[k].2.1) = id
        · exact iteP_yes h1 (yes (by simp [erectC, hp, h0, h1]))
        · refine iteP_no h1 ?_
          refine head_at hb _ ?_
          by_cases h2 : headOf (pathOf d d.2.2.2.1[k].2.2.1) = id
          · exact iteP_yes h2 (yes (by simp [erectC, hp, h0, h2]))
          · exact iteP_no h2 (no (by simp [erectC, hp, h0, h1, h2]))
      · exact iteP_no (by simpa using h0) (no (by simp [erectC, h0]))
  · have : k = d.2.2.2.1.length := by omega
    subst this
    refine iteP_no (by simp) ?_
    refine chosen_tail (by have := he.2.2.2; omega) he.2.1 (R := fun y => y = Sh.enc r_ls (picks d (erectC d id))) ?_
    rw [he.1, List.take_length]; rfl
end Go.Pv
set_option linter.unusedSimpArgs false
set_option linter.unusedVariables false
set_option maxRecDepth 100000
namespace Go.Pv
open Go Go.Proofs
set_option maxRecDepth 100000
noncomputable def E_has18 : Env := Env.of []
def H_has18 : FuncId → Hint := fun f => match f == 11 with | true => ⟨fun r => match r == 2 with | true => .inv [.val 5 false (.int .i64)] | false => .none, fun _ _ => none, fun _ => none⟩ | false => noHint
theorem Eok_has18 : EnvOk Tryz.prog E_has18 := EnvOk.nil _
def F_has18 (a0 : List ByteArray) (a1 : ByteArray) (R : T → Prop) : Prop :=
 loopK (Int × PUnit)
 (fun (X0 : Int × PUnit → Prop) (s1 : Int × PUnit) =>
 iteP (decide (s1.fst < (↑(List.map Sy.str.enc a0).length : Int)))
 (rowsK Sy.str (List.map Sy.str.enc a0) s1.fst fun (y2 : ByteArray) =>
 iteP (decide (y2 = a1)) (R (T.v (Value.bool true))) (X0 (IntKind.i64.wrap (s1.fst + 1), ())))
 (R (T.v (Value.bool false))))
 (0, ())
theorem F_has18_eq (a0 : List ByteArray) (a1 : ByteArray) (R : T → Prop) : sxTop stdC2 Tryz.prog E_has18 H_has18 8 11 [encV false Sy.str.li a0, encV false Sy.str a1] R = F_has18 a0 a1 R := by kernel_rfl
abbrev s_has18 : Sh := [(false, Sy.str.li), (false, Sy.str)]
abbrev r_has18 : Sh := [(false, Sy.bool)]
theorem r_has18_call (y : Sh.den r_has18) (K : Sh.den r_has18 → Prop) : callK r_has18 (some (Sh.enc r_has18 y)) K = K y := callK_enc rfl y K

def sp_has18 (x : List ByteArray × ByteArray) : Option T := some (T.v (Value.bool (memB x.1 x.2)))
noncomputable def g_has18 : List T → Option (T) := gS s_has18 sp_has18
theorem g_has18_at {a0 : List ByteArray} {a1 : ByteArray} : g_has18 [T.sl false (List.map Sy.str.enc a0), T.v (Value.string a1)] = sp_has18 (a0, a1) := gS_enc (s := s_has18) rfl (a0, a1) rfl
theorem g_has18_op {u0 u1} : g_has18 [T.sl false (List.map Sy.str.enc u0), T.v (Value.string u1)] = sp_has18 (u0, u1) := gS_enc (s := s_has18) rfl (u0, u1) rfl
theorem of_has18 (h : ∀ (a0 : List ByteArray) (a1 : ByteArray) (r : T), sp_has18 (a0, a1) = some r → BdSh s_has18 (a0, a1) → F_has18 a0 a1 (fun y => y = r)) : PureFn Tryz.prog 11 g_has18 :=
  pureFn_S (E := E_has18) (Hs := H_has18) Eok_has18 mixed' plain' (noHeap_of rfl) 8 ⟨_, _, Tryz.func11, rfl⟩ rfl fun x r h1 h2 => by
    obtain ⟨a0, a1⟩ := x
    rw [show Sh.encs s_has18 (a0, a1) = [encV false Sy.str.li a0, encV false Sy.str a1] from rfl, F_has18_eq]
    exact h a0 a1 r h1 h2

theorem fn_has18 : PureFn Tryz.prog 11 g_has18 := of_has18 fun l x r h hb => by
  have hl : l.length ≤ 2 ^ 47 := hb.1.1
  cases h
  unfold F_has18
  refine loopK_ix l.length (fun k s => s.1 = (k : Int) ∧ memB (l.drop k) x = memB l x) ⟨rfl, by rw [List.drop_zero]⟩ ?_
  rintro X k ⟨i, u⟩ hk ⟨rfl, he⟩ hX
  dsimp only at he ⊢
  refine ifP (fun hlt => ?_) fun hge => ?_
  · rw [List.length_map] at hlt
    have hlt : k < l.length := by omega
    rw [rowsK_at (r := .str) hlt]
    rw [List.drop_eq_getElem_cons hlt, memB, List.any_cons] at he
    refine ifP (fun h => ?_) fun h => ?_
    · rw [decide_eq_true h, Bool.true_or] at he
      show _ = T.v (Value.bool (memB l x))
      rw [← he]
    · rw [decide_eq_false h, Bool.false_or] at he
      refine hX _ hlt ⟨?_, he⟩
      show IntKind.i64.wrap ((k : Int) + 1) = _
      rw [wrap_id] <;> omega
  · rw [List.length_map] at hge
    have : k = l.length := by omega
    subst this
    rw [List.drop_length] at he
    show _ = T.v (Value.bool (memB l x))
    rw [← he]; rfl
set_option maxRecDepth 100000
noncomputable def E_valid18 : Env := Env.of [(19, .pure g_light), (20, .pure g_chkF)]
def H_valid18 : FuncId → Hint := fun _ => noHint
theorem Eok_valid18 : EnvOk Tryz.prog E_valid18 := EnvOk.cons (x := .pure g_light) fn_light (EnvOk.cons (x := .pure g_chkF) fn_chkF (EnvOk.nil _))
def F_valid18 (a0 : TDesign) (a1 : TMaterials) (R : T → Prop) : Prop :=
 callK [(false, Sy.bool)]
 (g_light [encV true yDesign a0, T.v (Value.int IntKind.i64 40)]) fun (y0 : Bool) =>
 iteP y0
 (iteP (decide ((↑(List.map yGrade.enc a1.fst).length : Int) ≤ 40))
 (iteP (decide ((↑(List.map ySection.enc a1.snd).length : Int) ≤ 40))
 (callK [(false, Sy.int IntKind.i64)]
 (g_chkF [encV true yDesign a0, encV true yMaterials a1]) fun (y1 : Int) =>
 R (T.v (Value.bool (decide (y1 = 0)))))
 (R (T.v (Value.bool false))))
 (R (T.v (Value.bool false))))
 (R (T.v (Value.bool false)))
theorem F_valid18_eq (a0 : TDesign) (a1 : TMaterials) (R : T → Prop) : sxTop stdC2 Tryz.prog E_valid18 H_valid18 8 7 [encV true yDesign a0, encV true yMaterials a1] R = F_valid18 a0 a1 R := by kernel_rfl
abbrev s_valid18 : Sh := [(true, yDesign), (true, yMaterials)]
abbrev r_valid18 : Sh := [(false, Sy.bool)]
theorem r_valid18_call (y : Sh.den r_valid18) (K : Sh.den r_valid18 → Prop) : callK r_valid18 (some (Sh.enc r_valid18 y)) K = K y := callK_enc rfl y K

def validE (d : TDesign) (m : TMaterials) : Bool := light d 40 && decide (m.1.length ≤ 40) && decide (m.2.length ≤ 40) && decide (chkF d m = 0)
def sp_valid18 (x : TDesign × TMaterials) : Option T := some (T.v (Value.bool (validE x.1 x.2)))
noncomputable def g_valid18 : List T → Option (T) := gS s_valid18 sp_valid18
theorem g_valid18_at {a0 : TDesign} {a1 : TMaterials} : g_valid18 [encV true yDesign a0, encV true yMaterials a1] = sp_valid18 (a0, a1) := gS_enc (s := s_valid18) rfl (a0, a1) rfl
theorem g_valid18_op {u0 u1 u2 u3 u4 u5 u6 u7} : g_valid18 [T.agg
    [T.v (Value.string u0), T.sl false (List.map yNode.enc u1),
      T.sl false (List.map yPart.enc u2),
      T.sl false (List.map ySeam.enc u3),
      T.sl false (List.map yPackage.enc u4),
      T.sl false (List.map yNeed.enc u5)],
  T.agg [T.sl false (List.map yGrade.enc u6), T.sl false (List.map ySection.enc u7)]] = sp_valid18 ((u0, (u1, (u2, (u3, (u4, u5))))), (u6, u7)) := gS_enc (s := s_valid18) rfl ((u0, (u1, (u2, (u3, (u4, u5))))), (u6, u7)) rfl
theorem of_valid18 (h : ∀ (a0 : TDesign) (a1 : TMaterials) (r : T), sp_valid18 (a0, a1) = some r → BdSh s_valid18 (a0, a1) → F_valid18 a0 a1 (fun y => y = r)) : PureFn Tryz.prog 7 g_valid18 :=
  pureFn_S (E := E_valid18) (Hs := H_valid18) Eok_valid18 mixed' plain' (noHeap_of rfl) 8 ⟨_, _, Tryz.func7, rfl⟩ rfl fun x r h1 h2 => by
    obtain ⟨a0, a1⟩ := x
    rw [show Sh.encs s_valid18 (a0, a1) = [encV true yDesign a0, encV true yMaterials a1] from rfl, F_valid18_eq]
    exact h a0 a1 r h1 h2

theorem fn_valid18 : PureFn Tryz.prog 7 g_valid18 := of_valid18 fun d m r h hb => by
  cases h
  unfold F_valid18
  have is : ∀ {b : Bool}, validE d m = b → T.v (Value.bool b) = T.v (Value.bool (validE d m)) := fun h => by rw [h]
  refine callK_some (s := [(false, .bool)]) (y := light d 40) (g_light_at ..) ?_
  rw [List.length_map, List.length_map]
  refine ifB (fun h1 => ?_) fun h1 => is (by unfold validE; rw [h1]; rfl)
  refine ifP (fun h2 => ?_) fun h2 => is (by unfold validE; rw [h1, decide_eq_false (by omega)]; rfl)
  refine ifP (fun h3 => ?_) fun h3 => is (by unfold validE; rw [h1, decide_eq_true (by omega), decide_eq_false (by omega)]; rfl)
  refine callK_some (s := [(false, .int .i64)]) (y := chkF d m) (g_chkF_at ..) (is ?_)
  unfold validE; rw [h1, decide_eq_true (by omega), decide_eq_true (by omega)]; rfl
/-! ### What a valid design is known by -/
theorem chkF_ok {d : TDesign} {m : TMaterials} (h : chkF d m = 0) : matE m = 0 ∧ isName d.1 = true ∧ formE d = 0 ∧ nodesE d = 0 ∧ partsE d m = 0 ∧ firstE (seamE d) d.2.2.2.1 = 0 ∧ packsE d = 0 ∧ firstE (needE d) d.2.2.2.2.2 = 0 := by
  unfold chkF at h
  split at h
  · exact absurd h ‹_›
  split at h
  · cases h
  split at h
  · exact absurd h ‹_›
  split at h
  · exact absurd h ‹_›
  split at h
  · exact absurd h ‹_›
  split at h
  · exact absurd h ‹_›
  split at h
  · exact absurd h ‹_›
  rename_i h1 h2 h3 h4 h5 h6 h7
  exact ⟨Classical.byContradiction h1, by simpa using h2, Classical.byContradiction h3, Classical.byContradiction h4, Classical.byContradiction h5, Classical.byContradiction h6, Classical.byContradiction h7, h⟩
theorem formE_ok {d : TDesign} (h : formE d = 0) : tooLong d = false ∧ (asc (ids d.2.1) = true ∧ asc (ids d.2.2.1) = true ∧ asc (ids d.2.2.2.1) = true ∧ asc (ids d.2.2.2.2.1) = true) ∧ dupD d = false := by
  unfold formE at h
  split at h
  · cases h
  split at h
  · cases h
  split at h
  · cases h
  rename_i h1 h2 h3
  have h2 : inOrder d = true := by simpa using h2
  simp only [inOrder, Bool.and_eq_true] at h2
  exact ⟨by simpa using h1, ⟨h2.1.1.1.1, h2.1.1.1.2, h2.1.1.2, h2.1.2⟩, by simpa using h3⟩
theorem seamE_ok {d : TDesign} {s : TSeam} (h : seamE d s = 0) : (isId s.1 = true ∧ isId s.2.1 = true ∧ isId s.2.2.1 = true) ∧ s.2.1 ≠ s.2.2.1 ∧ (s.2.2.2.1 = 1 ∨ s.2.2.2.1 = 2) ∧ (1 ≤ s.2.2.2.2.1 ∧ s.2.2.2.2.1 ≤ 32768 ∧ 1 ≤ s.2.2.2.2.2 ∧ s.2.2.2.2.2 ≤ 3) ∧ (partOf d s.2.1).isSome = true ∧ (partOf d s.2.2.1).isSome = true := by
  unfold seamE at h
  split at h
  · cases h
  split at h
  · cases h
  split at h
  · cases h
  split at h
  · cases h
  split at h
  · cases h
  rename_i h1 h2 h3 h4 h5
  simp only [not_or, Option.isNone_iff_eq_none, Bool.not_eq_false] at h1 h5
  refine ⟨h1, h2, by omega, by omega, ?_, ?_⟩
  · cases h : partOf d s.2.1 with
    | none => exact absurd h h5.1
    | some _ => rfl
  · cases h : partOf d s.2.2.1 with
    | none => exact absurd h h5.2
    | some _ => rfl
/-- An identifier finds the element at its place, where no identifier is there twice. -/
theorem find_at {α : Type} : ∀ {l : List (ByteArray × α)}, (ids l).Nodup → ∀ (k : Nat) (h : k < l.length), l.find? (fun s => decide (s.1 = l[k].1)) = some l[k]
  | [], _, k, h => by cases h
  | a :: l, hn, 0, h => by simp
  | a :: l, hn, k + 1, h => by
    obtain ⟨h1, h2⟩ := List.pairwise_cons.1 (show (a.1 :: ids l).Nodup from hn)
    have hk : k < l.length := by simpa using h
    have hne : a.1 ≠ l[k].1 := h1 _ (List.mem_map.2 ⟨l[k], List.getElem_mem hk, rfl⟩)
    simp only [List.getElem_cons_succ]
    rw [List.find?_cons_of_neg (by simpa using hne)]
    exact find_at h2 k hk
theorem find_mem {α : Type} {l : List (ByteArray × α)} {id : ByteArray} {a : ByteArray × α} (h : l.find? (fun s => decide (s.1 = id)) = some a) : a ∈ l ∧ a.1 = id :=
  ⟨List.mem_of_find?_eq_some h, by have := List.find?_some h; simpa using this⟩
structure Valid (d : TDesign) (m : TMaterials) : Prop where
  light : light d 40 = true
  mat : matE m = 0
  nodes : (ids d.2.1).Nodup
  parts : (ids d.2.2.1).Nodup
  seams : (ids d.2.2.2.1).Nodup
  node : nodesE d = 0
  part : partsE d m = 0
  seam : ∀ s ∈ d.2.2.2.1, seamE d s = 0
  small : d.2.1.length ≤ 40 ∧ d.2.2.1.length ≤ 40 ∧ d.2.2.2.1.length ≤ 40
theorem valid_ok {d : TDesign} {m : TMaterials} (h : validE d m = true) : Valid d m := by
  simp only [validE, Bool.and_eq_true, decide_eq_true_eq] at h
  obtain ⟨⟨⟨h1, _⟩, _⟩, h2⟩ := h
  obtain ⟨c1, c2, c3, c4, c5, c6, c7, c8⟩ := chkF_ok h2
  obtain ⟨_, ⟨a1, a2, a3, a4⟩, _⟩ := formE_ok c3
  have h3 := h1
  simp only [Go.Pv.light, Bool.and_eq_true, decide_eq_true_eq] at h3
  exact ⟨h1, c1, asc_nodup a1, asc_nodup a2, asc_nodup a3, c4, c5, firstE_zero c6, by omega⟩
theorem light_up {d : TDesign} (h : light d 40 = true) : light d 100 = true := by
  simp only [light, Bool.and_eq_true, decide_eq_true_eq] at h ⊢
  omega
end Go.Pv
set_option linter.unusedSimpArgs false
set_option linter.unusedVariables false
set_option maxRecDepth 100000
namespace Go.Pv
open Go Go.Proofs
theorem okD_inV {d : TDesign} (h : InS yDesign d) : okD d = true := by
  refine List.all_eq_true.2 fun p hp => ?_
  obtain ⟨_, _, ⟨_, _, h3⟩, _⟩ := h
  have h4 := h3 p hp
  obtain ⟨_, _, _, _, _, _, ⟨⟨h5, h6, _⟩, h7, h8, h9⟩, _⟩ := h4
  unfold okPart okShape okLen
  simp only [Bool.and_eq_true, decide_eq_true_eq, List.all_eq_true]
  refine ⟨⟨⟨?_, ?_⟩, ?_, ?_⟩, fun q hq => ?_⟩
  · exact h5
  · exact h6
  · exact h7
  · exact h8
  · obtain ⟨g1, g2, _⟩ := h9 q hq
    exact ⟨g1, g2⟩
/-! ### SeamTwo -/
theorem one_id {α : Type} {l : List (ByteArray × α)} (hn : (ids l).Nodup) {a b : ByteArray × α} (ha : a ∈ l) (hb : b ∈ l) (h : a.1 = b.1) : a = b := by
  obtain ⟨i, hi, rfl⟩ := List.mem_iff_getElem.1 ha
  obtain ⟨j, hj, rfl⟩ := List.mem_iff_getElem.1 hb
  have h1 := find_at hn i hi
  have h2 := find_at hn j hj
  rw [h, h2] at h1
  exact (Option.some.inj h1).symm
theorem mem_picks {d : TDesign} (hn : (ids d.2.2.2.1).Nodup) (c : TSeam → Bool) {s : TSeam} (hs : s ∈ d.2.2.2.1) : memB (picks d c) s.1 = c s := by
  rw [Bool.eq_iff_iff, memB_iff]
  unfold picks
  rw [List.mem_map]
  constructor
  · rintro ⟨s', h1, h2⟩
    obtain ⟨h3, h4⟩ := List.mem_filter.1 h1
    rw [one_id hn h3 hs h2] at h4
    exact h4
  · intro h
    exact ⟨s, List.mem_filter.2 ⟨hs, h⟩, rfl⟩
theorem count_or {α : Type} {a b : ByteArray} (hab : a ≠ b) : ∀ {l : List (ByteArray × α)}, (ids l).Nodup → (l.filter fun p => decide (a = p.1) || decide (b = p.1)).length = (memB (ids l) a).toNat + (memB (ids l) b).toNat
  | [], _ => rfl
  | p :: l, hn => by
    obtain ⟨h1, h2⟩ := List.pairwise_cons.1 (show (p.1 :: ids l).Nodup from hn)
    have ih := count_or hab h2
    have hnot : memB (ids l) p.1 = false := by
      rw [Bool.eq_false_iff]; intro h; exact h1 _ (memB_iff.1 h) rfl
    have hm : ∀ x, memB (ids (p :: l)) x = (decide (p.1 = x) || memB (ids l) x) := fun x => rfl
    rw [List.filter_cons, hm, hm]
    by_cases ha : a = p.1
    · have hb : ¬ b = p.1 := fun h => hab (ha.trans h.symm)
      have hb' : ¬ p.1 = b := fun h => hb h.symm
      rw [← ha] at hnot
      rw [if_pos (by rw [decide_eq_true ha]; rfl), List.length_cons, ih, hnot, decide_eq_true ha.symm, decide_eq_false hb']
      simp; omega
    · have ha' : ¬ p.1 = a := fun h => ha h.symm
      by_cases hb : b = p.1
      · rw [← hb] at hnot
        rw [if_pos (by rw [decide_eq_true hb, Bool.or_true]), List.length_cons, ih, hnot, decide_eq_true hb.symm, decide_eq_false ha']
        simp
      · have hb' : ¬ p.1 = b := fun h => hb h.symm
        rw [if_neg (by rw [decide_eq_false ha, decide_eq_false hb]; decide), ih, decide_eq_false ha', decide_eq_false hb']
        simp
theorem memB_find {α : Type} {l : List (ByteArray × α)} {id : ByteArray} (h : (l.find? fun s => decide (s.1 = id)).isSome = true) : memB (ids l) id = true := by
  obtain ⟨a, ha⟩ := Option.isSome_iff_exists.1 h
  obtain ⟨h1, h2⟩ := find_mem ha
  exact memB_iff.2 (List.mem_map.2 ⟨a, h1, h2⟩)
/-! ### SeamThin -/
theorem secThick_pos (s : TSection) : 1 ≤ secThick s := by unfold secThick; split <;> omega
theorem part_ok {d : TDesign} {m : TMaterials} (V : Valid d m) {id : ByteArray} {p : TPart} (h : partOf d id = some p) : partE p m = 0 ∧ (nodeOf d (aNode p)).isSome = true := by
  have hp := V.part
  unfold partsE at hp
  have h0 : firstE (partNodeE d m) d.2.2.1 = 0 := by
    refine Classical.byContradiction fun hc => ?_
    rw [if_neg hc] at hp
    exact hc hp
  have h1 := firstE_zero h0 p (find_mem h).1
  unfold partNodeE at h1
  have h2 : partE p m = 0 := by
    refine Classical.byContradiction fun hc => ?_
    rw [if_neg hc] at h1
    exact hc h1
  rw [if_pos h2] at h1
  refine ⟨h2, ?_⟩
  cases hn : nodeOf d (aNode p) with
  | none => rw [hn] at h1; cases h1
  | some _ => rfl
theorem partE_ok {p : TPart} {m : TMaterials} (h : partE p m = 0) : (aKind p = 1 ∨ aKind p = 2 ∨ aKind p = 3 ∨ aKind p = 4) ∧ madeB p m = true := by
  unfold partE at h
  split at h
  · cases h
  split at h
  · cases h
  split at h
  · cases h
  split at h
  · cases h
  split at h
  · cases h
  rename_i h1 h2 h3 h4 h5
  exact ⟨Classical.byContradiction h3, by simpa using h5⟩
end Go.Pv
set_option linter.unusedSimpArgs false
set_option linter.unusedVariables false
set_option maxRecDepth 100000
namespace Go.Pv
open Go Go.Proofs
/-- The way up, without what was gathered. -/
def upC (d : TDesign) : Nat → ByteArray → Option (List ByteArray)
  | 0, _ => none
  | n + 1, id => match nodeOf d id with
    | none => none
    | some x => if x.2.1 = 1 then some [id] else (upC d n x.2.2).map fun c => id :: c
theorem upF_C (d : TDesign) : ∀ (n : Nat) (id : ByteArray) (l : List ByteArray), upF d n id l = match upC d n id with
    | some c => (l ++ c, true)
    | none => ([], false)
  | 0, _, _ => rfl
  | n + 1, id, l => by
    unfold upF upC
    cases nodeOf d id with
    | none => rfl
    | some x =>
      dsimp only
      by_cases hx : x.2.1 = 1
      · rw [if_pos hx, if_pos hx]
      · rw [if_neg hx, if_neg hx, upF_C d n]
        cases upC d n x.2.2 with
        | none => rfl
        | some c => simp
theorem upC_mono {d : TDesign} : ∀ {n m : Nat} {id : ByteArray} {c : List ByteArray}, upC d n id = some c → n ≤ m → upC d m id = some c
  | 0, _, _, _, h, _ => by cases h
  | n + 1, 0, _, _, _, h => by omega
  | n + 1, m + 1, id, c, h, hm => by
    unfold upC at h ⊢
    cases hn : nodeOf d id with
    | none => rw [hn] at h; cases h
    | some x =>
      rw [hn] at h
      dsimp only at h ⊢
      by_cases hx : x.2.1 = 1
      · rw [if_pos hx] at h ⊢; exact h
      · rw [if_neg hx] at h ⊢
        cases h1 : upC d n x.2.2 with
        | none => rw [h1] at h; cases h
        | some c' => rw [upC_mono h1 (by omega)]; rw [h1] at h; exact h
theorem upC_suffix {d : TDesign} : ∀ {n : Nat} {id : ByteArray} {t r : List ByteArray} {y : ByteArray}, upC d n id = some (t ++ y :: r) → upC d n y = some (y :: r)
  | 0, _, _, _, _, h => by cases h
  | n + 1, id, t, r, y, h => by
    have h0 := h
    unfold upC at h
    cases hn : nodeOf d id with
    | none => rw [hn] at h; cases h
    | some x =>
      rw [hn] at h
      dsimp only at h
      by_cases hx : x.2.1 = 1
      · rw [if_pos hx] at h
        have h := Option.some.inj h
        cases t with
        | nil => simp only [List.nil_append, List.cons.injEq] at h; obtain ⟨rfl, rfl⟩ := h; exact h0
        | cons a t => simp at h
      · rw [if_neg hx] at h
        cases h1 : upC d n x.2.2 with
        | none => rw [h1] at h; cases h
        | some c' =>
          rw [h1] at h
          have h := Option.some.inj h
          cases t with
          | nil => simp only [List.nil_append, List.cons.injEq] at h; obtain ⟨rfl, rfl⟩ := h; exact h0
          | cons a t =>
            simp only [List.cons_append, List.cons.injEq] at h
            obtain ⟨rfl, rfl⟩ := h
            exact upC_mono (upC_suffix h1) (by omega)
theorem upC_mem {d : TDesign} : ∀ {n : Nat} {id : ByteArray} {c : List ByteArray}, upC d n id = some c → ∀ y ∈ c, (nodeOf d y).isSome = true
  | 0, _, _, h => by cases h
  | n + 1, id, c, h => by
    unfold upC at h
    cases hn : nodeOf d id with
    | none => rw [hn] at h; cases h
    | some x =>
      rw [hn] at h
      dsimp only at h
      by_cases hx : x.2.1 = 1
      · rw [if_pos hx] at h; cases h
        intro y hy
        have : y = id := by simpa using hy
        subst this; rw [hn]; rfl
      · rw [if_neg hx] at h
        cases h1 : upC d n x.2.2 with
        | none => rw [h1] at h; cases h
        | some c' =>
          rw [h1] at h; cases h
          intro y hy
          rcases List.mem_cons.1 hy with rfl | hy
          · rw [hn]; rfl
          · exact upC_mem h1 y hy
theorem upC_nodup {d : TDesign} : ∀ {n : Nat} {id : ByteArray} {c : List ByteArray}, upC d n id = some c → c.Nodup
  | 0, _, _, h => by cases h
  | n + 1, id, c, h => by
    have h0 := h
    unfold upC at h
    cases hn : nodeOf d id with
    | none => rw [hn] at h; cases h
    | some x =>
      rw [hn] at h
      dsimp only at h
      by_cases hx : x.2.1 = 1
      · rw [if_pos hx] at h; cases h; simp
      · rw [if_neg hx] at h
        cases h1 : upC d n x.2.2 with
        | none => rw [h1] at h; cases h
        | some c' =>
          rw [h1] at h; cases h
          refine List.pairwise_cons.2 ⟨fun y hy e => ?_, upC_nodup h1⟩
          subst e
          obtain ⟨t, r, rfl⟩ := List.append_of_mem hy
          have h2 := upC_suffix (t := id :: t) h0
          rw [h0] at h2
          have h3 := congrArg List.length (Option.some.inj h2)
          simp at h3
          omega
theorem upC_ne {d : TDesign} {n : Nat} {id : ByteArray} {c : List ByteArray} (h : upC d n id = some c) : c ≠ [] := by
  cases n with
  | zero => cases h
  | succ n =>
    unfold upC at h
    intro hc
    subst hc
    cases hn : nodeOf d id with
    | none => rw [hn] at h; cases h
    | some x =>
      rw [hn] at h
      dsimp only at h
      by_cases hx : x.2.1 = 1
      · rw [if_pos hx] at h; cases h
      · rw [if_neg hx] at h
        cases h1 : upC d n x.2.2 with
        | none => rw [h1] at h; cases h
        | some c' => rw [h1] at h; cases h
theorem up_C {d : TDesign} {id : ByteArray} (h : (up d id).2 = true) : upC d 65 id = some (up d id).1 := by
  unfold up at h ⊢
  rw [upF_C] at h ⊢
  cases h1 : upC d 65 id with
  | none => rw [h1] at h; cases h
  | some c => simp
theorem C_up {d : TDesign} {id : ByteArray} {c : List ByteArray} (h : upC d 65 id = some c) : up d id = (c, true) := by
  unfold up
  rw [upF_C, h]; simp
/-- The path of a node: from its block down to it. -/
def pathN (d : TDesign) (id : ByteArray) : List ByteArray := (up d id).1.reverse
/-- A head of a path that ends with a node is that node's path. -/
theorem path_head {d : TDesign} {id y : ByteArray} {u v : List ByteArray} (h : (up d id).2 = true) (hp : pathN d id = (u ++ [y]) ++ v) : (up d y).2 = true ∧ pathN d y = u ++ [y] := by
  have h1 := up_C h
  have h2 : (up d id).1 = v.reverse ++ y :: u.reverse := by
    have := congrArg List.reverse hp
    simpa [pathN] using this
  rw [h2] at h1
  have h3 := C_up (upC_suffix h1)
  unfold pathN
  rw [h3]
  exact ⟨rfl, by simp⟩
theorem path_mem {d : TDesign} {id y : ByteArray} (h : (up d id).2 = true) (hy : y ∈ pathN d id) : ∃ v, pathN d id = pathN d y ++ v := by
  obtain ⟨u, v, e⟩ := List.append_of_mem hy
  have e' : pathN d id = (u ++ [y]) ++ v := by rw [e]; simp
  obtain ⟨_, h2⟩ := path_head h e'
  exact ⟨v, by rw [h2]; exact e'⟩
theorem path_self {d : TDesign} {id : ByteArray} (h : (up d id).2 = true) : pathN d id ≠ [] ∧ (pathN d id).Nodup ∧ ∀ y ∈ pathN d id, (nodeOf d y).isSome = true := by
  have h1 := up_C h
  unfold pathN
  refine ⟨by simpa using upC_ne h1, ?_, fun y hy => upC_mem h1 y (by simpa using hy)⟩
  have := upC_nodup h1
  exact List.pairwise_reverse.2 (this.imp fun h => Ne.symm h)
/-- The path of a node ends with it. -/
theorem path_end {d : TDesign} {id : ByteArray} (h : (up d id).2 = true) : ∃ u, pathN d id = u ++ [id] := by
  have h1 := up_C h
  unfold upC at h1
  unfold pathN
  cases hn : nodeOf d id with
  | none => rw [hn] at h1; cases h1
  | some x =>
    rw [hn] at h1
    dsimp only at h1
    by_cases hx : x.2.1 = 1
    · rw [if_pos hx] at h1; rw [← Option.some.inj h1]; exact ⟨[], rfl⟩
    · rw [if_neg hx] at h1
      cases h2 : upC d 64 x.2.2 with
      | none => rw [h2] at h1; cases h1
      | some c => rw [h2] at h1; rw [← Option.some.inj h1]; exact ⟨c.reverse, by simp⟩
end Go.Pv
set_option linter.unusedSimpArgs false
set_option linter.unusedVariables false
set_option maxRecDepth 100000
namespace Go.Pv
open Go Go.Proofs
theorem isId_empty : isId ⟨#[]⟩ = false := by kernel_rfl
theorem nodesE_ok {d : TDesign} (h : nodesE d = 0) : (∀ n ∈ d.2.1, nodeE d n = 0) ∧ noUp d = false := by
  unfold nodesE at h
  split at h
  · rename_i h1
    refine ⟨firstE_zero h1, ?_⟩
    split at h
    · cases h
    · rename_i h2; simpa using h2
  · rename_i h1; exact absurd h h1
theorem node_up {d : TDesign} {m : TMaterials} (V : Valid d m) {n : ByteArray} (h : (nodeOf d n).isSome = true) : (up d n).2 = true ∧ isId n = true ∧ n ∈ ids d.2.1 := by
  obtain ⟨x, hx⟩ := Option.isSome_iff_exists.1 h
  obtain ⟨h1, rfl⟩ := find_mem hx
  obtain ⟨h2, h3⟩ := nodesE_ok V.node
  refine ⟨?_, ?_, List.mem_map.2 ⟨x, h1, rfl⟩⟩
  · unfold noUp at h3
    rw [List.any_eq_false] at h3
    simpa using h3 x h1
  · have h4 := h2 x h1
    unfold nodeE at h4
    split at h4
    · cases h4
    · rename_i h5; simpa using h5
theorem part_path {d : TDesign} {m : TMaterials} (V : Valid d m) {id : ByteArray} {p : TPart} (h : partOf d id = some p) : pathOf d id = pathN d (aNode p) ∧ (up d (aNode p)).2 = true := by
  have hn := (part_ok V h).2
  refine ⟨?_, (node_up V hn).1⟩
  unfold pathOf path0
  rw [h]
  dsimp only
  obtain ⟨x, hx⟩ := Option.isSome_iff_exists.1 hn
  rw [show nodeOf d (pNode p) = some x from hx]
  rfl
theorem comm_l : ∀ a b : List ByteArray, ∃ t, a = comm a b ++ t
  | [], b => ⟨[], by simp [comm]⟩
  | x :: a, [] => ⟨x :: a, by simp [comm]⟩
  | x :: a, y :: b => by
    unfold comm
    by_cases h : x = y
    · rw [if_pos h]
      obtain ⟨t, e⟩ := comm_l a b
      exact ⟨t, by rw [List.cons_append, ← e]⟩
    · rw [if_neg h]; exact ⟨x :: a, rfl⟩
theorem comm_r : ∀ a b : List ByteArray, ∃ t, b = comm a b ++ t
  | [], b => ⟨b, by simp [comm]⟩
  | x :: a, [] => ⟨[], by simp [comm]⟩
  | x :: a, y :: b => by
    unfold comm
    by_cases h : x = y
    · rw [if_pos h]
      obtain ⟨t, e⟩ := comm_r a b
      exact ⟨t, by rw [List.cons_append, ← e, h]⟩
    · rw [if_neg h]; exact ⟨y :: b, rfl⟩
theorem comm_max : ∀ {u s t : List ByteArray}, ∃ w, comm (u ++ s) (u ++ t) = u ++ w
  | [], s, t => ⟨_, rfl⟩
  | x :: u, s, t => by
    obtain ⟨w, e⟩ := comm_max (u := u) (s := s) (t := t)
    exact ⟨w, by simp only [List.cons_append, comm, if_true, e]⟩
/-- A seam of a valid design: its parts' paths. -/
structure SeamP (d : TDesign) (s : TSeam) (a b : ByteArray) : Prop where
  upA : (up d a).2 = true
  upB : (up d b).2 = true
  pA : pathOf d s.2.1 = pathN d a
  pB : pathOf d s.2.2.1 = pathN d b
theorem seamP {d : TDesign} {m : TMaterials} (V : Valid d m) {s : TSeam} (hs : s ∈ d.2.2.2.1) : ∃ a b, SeamP d s a b := by
  obtain ⟨_, _, _, _, ha, hb⟩ := seamE_ok (V.seam s hs)
  obtain ⟨p, hp⟩ := Option.isSome_iff_exists.1 ha
  obtain ⟨q, hq⟩ := Option.isSome_iff_exists.1 hb
  obtain ⟨h1, h2⟩ := part_path V hp
  obtain ⟨h3, h4⟩ := part_path V hq
  exact ⟨aNode p, aNode q, h2, h4, h1, h3⟩
theorem last_snoc (u : List ByteArray) (x : ByteArray) : last (u ++ [x]) = x := by simp [last]
theorem snoc_last {l : List ByteArray} (h : l ≠ []) : ∃ u, l = u ++ [last l] := by
  refine ⟨l.dropLast, ?_⟩
  have := (List.dropLast_concat_getLast h).symm
  unfold last
  rw [List.getLastD_eq_getLast?, List.getLast?_eq_some_getLast h]
  exact this
section
variable {d : TDesign} {m : TMaterials} {s : TSeam} {a b : ByteArray}
theorem seam_placed (P : SeamP d s a b) : placed d s = true := by
  unfold placed placedB
  rw [P.pA, P.pB]
  have h1 := List.length_pos_iff.2 (path_self P.upA).1
  have h2 := List.length_pos_iff.2 (path_self P.upB).1
  rw [decide_eq_true h1, decide_eq_true h2]; rfl
theorem way_home (P : SeamP d s a b) (h : way d s ≠ []) : (up d (last (way d s))).2 = true ∧ pathN d (last (way d s)) = way d s ∧ last (way d s) ∈ pathOf d s.2.1 ∧ last (way d s) ∈ pathOf d s.2.2.1 := by
  obtain ⟨u, hu⟩ := snoc_last h
  obtain ⟨t, ht⟩ := comm_l (pathOf d s.2.1) (pathOf d s.2.2.1)
  obtain ⟨t', ht'⟩ := comm_r (pathOf d s.2.1) (pathOf d s.2.2.1)
  have ht : pathOf d s.2.1 = way d s ++ t := ht
  have ht' : pathOf d s.2.2.1 = way d s ++ t' := ht'
  have hl : last (way d s) ∈ way d s := by rw [hu, last_snoc]; simp
  have hA : pathN d a = (u ++ [last (way d s)]) ++ t := by rw [← P.pA, ← hu]; exact ht
  obtain ⟨h1, h2⟩ := path_head P.upA hA
  exact ⟨h1, by rw [h2]; exact hu.symm, by rw [ht]; exact List.mem_append_left _ hl, by rw [ht']; exact List.mem_append_left _ hl⟩
theorem both_in (P : SeamP d s a b) {n : ByteArray} (h1 : n ∈ pathOf d s.2.1) (h2 : n ∈ pathOf d s.2.2.1) : ∃ w, way d s = pathN d n ++ w := by
  rw [P.pA] at h1
  rw [P.pB] at h2
  obtain ⟨v, hv⟩ := path_mem P.upA h1
  obtain ⟨v', hv'⟩ := path_mem P.upB h2
  unfold way
  rw [P.pA, P.pB, hv, hv']
  exact comm_max
theorem way_nodes (P : SeamP d s a b) : (way d s).Nodup ∧ ∀ n ∈ way d s, (nodeOf d n).isSome = true := by
  obtain ⟨t, ht⟩ := comm_l (pathOf d s.2.1) (pathOf d s.2.2.1)
  have ht : pathN d a = way d s ++ t := by rw [← P.pA]; exact ht
  obtain ⟨_, h1, h2⟩ := path_self P.upA
  rw [ht] at h1 h2
  exact ⟨(List.nodup_append.1 h1).1, fun n hn => h2 n (List.mem_append_left _ hn)⟩
theorem home_empty (V : Valid d m) (P : SeamP d s a b) : last (way d s) = ⟨#[]⟩ ↔ way d s = [] := by
  constructor
  · intro h
    refine Classical.byContradiction fun hc => ?_
    obtain ⟨u, hu⟩ := snoc_last hc
    have hl : last (way d s) ∈ way d s := by rw [hu, last_snoc]; simp
    have := (node_up V ((way_nodes P).2 _ hl)).2.1
    rw [h, isId_empty] at this
    cases this
  · intro h; rw [h]; rfl
theorem home_path (V : Valid d m) (P : SeamP d s a b) : path0 d (last (way d s)) = way d s := by
  by_cases h : way d s = []
  · rw [h]
    show path0 d ⟨#[]⟩ = []
    unfold path0
    cases hn : nodeOf d ⟨#[]⟩ with
    | some x =>
      have := (node_up V (n := ⟨#[]⟩) (by rw [hn]; rfl)).2.1
      rw [isId_empty] at this; cases this
    | none =>
      dsimp only
      cases hp : partOf d ⟨#[]⟩ with
      | none => rfl
      | some p =>
        exfalso
        have h1 := (part_ok V hp).1
        unfold partE at h1
        rw [(find_mem hp).2, isId_empty, if_pos (.inl rfl)] at h1
        cases h1
  · obtain ⟨h1, h2, _⟩ := way_home P h
    obtain ⟨u, hu⟩ := snoc_last h
    have hl : last (way d s) ∈ way d s := by rw [hu, last_snoc]; simp
    obtain ⟨x, hx⟩ := Option.isSome_iff_exists.1 ((way_nodes P).2 _ hl)
    unfold path0
    rw [hx]
    exact h2
end
theorem node_path {d : TDesign} {n : ByteArray} (h : (nodeOf d n).isSome = true) : path0 d n = pathN d n := by
  obtain ⟨x, hx⟩ := Option.isSome_iff_exists.1 h
  unfold path0 pathN
  rw [hx]
theorem count_way {α : Type} {l : List (ByteArray × α)} (hn : (ids l).Nodup) {w : List ByteArray} (hw : w.Nodup) (hs : ∀ x ∈ w, x ∈ ids l) : (l.filter fun n => memB w n.1).length = w.length := by
  have e : (l.filter fun n => memB w n.1).length = (ids (l.filter fun n => memB w n.1)).length := by simp [ids]
  have hsub : List.Sublist (ids (l.filter fun n => memB w n.1)) (ids l) := List.Sublist.map (fun (s : ByteArray × α) => s.1) (List.filter_sublist (p := fun n => memB w n.1) (l := l))
  have h1 := len_sub (hn.sublist hsub) (m := w) fun x hx => by
    obtain ⟨y, hy, rfl⟩ := List.mem_map.1 hx
    exact memB_iff.1 (List.mem_filter.1 hy).2
  have h2 := len_sub hw (m := ids (l.filter fun n => memB w n.1)) fun x hx => by
    obtain ⟨y, hy, rfl⟩ := List.mem_map.1 (hs x hx)
    exact List.mem_map.2 ⟨y, List.mem_filter.2 ⟨hy, memB_iff.2 hx⟩, rfl⟩
  omega
/-! ### The parts in a node -/
def nIn (d : TDesign) (node : ByteArray) (p : TPart) : Bool := memB (up d (aNode p)).1 node
def partsN (d : TDesign) (node : ByteArray) : List ByteArray := (d.2.2.1.filter (nIn d node)).map fun p => p.1
theorem mem_partsN {d : TDesign} {m : TMaterials} (V : Valid d m) {id node : ByteArray} {p : TPart} (h : partOf d id = some p) : memB (partsN d node) id = memB (pathOf d id) node := by
  rw [(part_path V h).1, Bool.eq_iff_iff, memB_iff, memB_iff]
  obtain ⟨hp, rfl⟩ := find_mem h
  unfold partsN pathN
  rw [List.mem_map, List.mem_reverse]
  constructor
  · rintro ⟨q, h1, h2⟩
    obtain ⟨h3, h4⟩ := List.mem_filter.1 h1
    rw [one_id V.parts h3 hp h2] at h4
    exact memB_iff.1 h4
  · intro h
    exact ⟨p, List.mem_filter.2 ⟨hp, memB_iff.2 h⟩, rfl⟩
theorem nfilt_yes {α : Type} {c : α → Bool} {f : α → ByteArray} {l : List α} {k : Nat} (hk : k < l.length) (hc : c l[k] = true) : ((l.take (k + 1)).filter c).map f = ((l.take k).filter c).map f ++ [f l[k]] := by
  rw [List.take_succ_eq_append_getElem hk, List.filter_append]; simp [hc]
theorem nfilt_no {α : Type} {c : α → Bool} {f : α → ByteArray} {l : List α} {k : Nat} (hk : k < l.length) (hc : c l[k] = false) : ((l.take (k + 1)).filter c).map f = ((l.take k).filter c).map f := by
  rw [List.take_succ_eq_append_getElem hk, List.filter_append]; simp [hc]
theorem nfilt_len {α : Type} {c : α → Bool} {f : α → ByteArray} {l : List α} {k : Nat} : (((l.take k).filter c).map f).length ≤ k := by
  have := List.length_filter_le c (l.take k); simp at this ⊢; omega
theorem nclimb_loop {d : TDesign} (id0 : ByteArray) {N : Prop} {Fd : ByteArray → List ByteArray → Prop} (hN : up d id0 = ([], false) → N) (hF : ∀ id' l', l'.length < 65 → up d id0 = (l' ++ [id'], true) → Fd id' l') :
    loopK (ByteArray × List ByteArray × Int × PUnit) (fun (X : ByteArray × List ByteArray × Int × PUnit → Prop) (s : ByteArray × List ByteArray × Int × PUnit) =>
      iteP (decide (s.snd.snd.fst < 65))
        (callK [(true, yNode), (false, Sy.bool)] (g_node [encV true yDesign d, T.v (Value.string s.fst)]) fun (y : TNode × Bool) =>
          iteP (!y.snd) N (reqK (decide (((List.map Sy.str.enc s.snd.fst).length + 1) * 16 ≤ 140737488355328) && decide ((List.map Sy.str.enc s.snd.fst).length + 1 ≤ 140737488355328))
            (iteP (decide (y.fst.snd.fst = 1)) (Fd s.fst s.snd.fst) (decK Sy.str (List.map Sy.str.enc s.snd.fst ++ [[T.v (Value.string s.fst)]]) fun (y7 : List ByteArray) => X (y.fst.snd.snd, y7, IntKind.i64.wrap (s.snd.snd.fst + 1), ())))))
        N) (id0, [], 0, ()) := by
  refine loopK_ix 65 (fun k s => ∃ id' l', s = (id', l', (k : Int), ()) ∧ l'.length = k ∧ upF d (65 - k) id' l' = up d id0) ⟨id0, [], rfl, rfl, rfl⟩ ?_
  rintro X k s hk ⟨id', l', rfl, hl, hu⟩ hX
  dsimp only
  by_cases hlt : k < 65
  · have h1 : (k : Int) < 65 := by omega
    obtain ⟨m, hm⟩ : ∃ m, 65 - k = m + 1 := ⟨64 - k, by omega⟩
    rw [hm] at hu
    simp only [upF] at hu
    refine iteP_yes h1 ?_
    refine callK_some (s := [(true, yNode), (false, .bool)]) (y := found noNode (nodeOf d id')) g_node_at ?_
    cases hn : nodeOf d id' with
    | none => simp only [hn] at hu; simp only [found, Bool.not_false, iteP_t]; exact hN hu.symm
    | some x =>
      simp only [hn] at hu
      simp only [found, Bool.not_true, iteP_f]
      rw [app_ok (by omega), dec_snoc]
      by_cases hx : x.2.1 = 1
      · rw [if_pos hx] at hu
        exact iteP_yes hx (hF _ _ (by omega) hu.symm)
      · rw [if_neg hx] at hu
        refine iteP_no hx (hX _ hlt ⟨x.2.2, l' ++ [id'], ?_, by simp [hl], by rw [← hu]; congr 1; omega⟩)
        simp only [Prod.mk.injEq, and_true, true_and]
        exact wrap_id _ (by omega) (by omega)
  · have h1 : ¬ (k : Int) < 65 := by omega
    have : 65 - k = 0 := by omega
    rw [this] at hu
    exact iteP_no h1 (hN hu.symm)
def sp_nparts (x : TDesign × ByteArray) : Option T := onlyC x.1 (Sh.enc r_ls (partsN x.1 x.2))
set_option maxRecDepth 100000
noncomputable def E_nparts : Env := Env.of [(26, .pure g_node)]
def H_nparts : FuncId → Hint := fun f => match f == 18 with | true => ⟨fun r => match r == 4 with | true => .inv [.own 4 1 .str, .map 2 .str false .bool, .val 20 false (.int .i64)] | false => match r == 10 with | true => .inv [.val 9 false .bool, .val 42 false (.int .i64)] | false => .none, fun i j => match i == 8 && j == 14 with | true => some [.val 9 false .bool, .map 2 .str false .bool] | false => match i == 8 && j == 8 with | true => some [.own 11 1 .str] | false => none, fun _ => none⟩ | false => match f == 27 with | true => ⟨fun r => match r == 3 with | true => .inv [.val 1 false .str, .own 6 1 .str, .val 9 false (.int .i64)] | false => .none, fun _ _ => none, fun _ => none⟩ | false => noHint
theorem Eok_nparts : EnvOk Tryz.prog E_nparts := EnvOk.cons (x := .pure g_node) fn_node (EnvOk.nil _)
def F_nparts (a0 : TDesign) (a1 : ByteArray) (R : T → Prop) : Prop :=
 decMK Sy.str false Sy.bool [] fun (y0 : List (ByteArray × Bool)) =>
 loopK (List ByteArray × List (ByteArray × Bool) × Int × PUnit)
 (fun (X1 : List ByteArray × List (ByteArray × Bool) × Int × PUnit → Prop)
 (s2 : List ByteArray × List (ByteArray × Bool) × Int × PUnit) =>
 iteP (decide (s2.snd.snd.fst < (↑(List.map yPart.enc a0.snd.snd.fst).length : Int)))
 (rowsK yPart (List.map yPart.enc a0.snd.snd.fst) s2.snd.snd.fst fun (y3 : TPart) =>
 findK TypeDesc.string (Value.string y3.snd.snd.snd.fst)
 (List.map (encE Sy.str false Sy.bool) s2.snd.fst) false Sy.bool
 (joinK (List ByteArray × PUnit)
 (fun (X10 : List ByteArray × PUnit → Prop) =>
 loopK (ByteArray × List ByteArray × Int × PUnit)
 (fun (X11 : ByteArray × List ByteArray × Int × PUnit → Prop)
 (s12 : ByteArray × List ByteArray × Int × PUnit) =>
 iteP (decide (s12.snd.snd.fst < 65))
 (callK [(true, yNode), (false, Sy.bool)]
 (g_node [encV true yDesign a0, T.v (Value.string s12.fst)])
 fun (y13 : TNode × Bool) =>
 iteP (!y13.snd) (X10 ([], ()))
 (reqK
 (decide (((List.map Sy.str.enc s12.snd.fst).length + 1) * 16 ≤ 140737488355328) &&
 decide ((List.map Sy.str.enc s12.snd.fst).length + 1 ≤ 140737488355328))
 (iteP (decide (y13.fst.snd.fst = 1))
 (decK Sy.str
 (List.map Sy.str.enc s12.snd.fst ++ [[T.v (Value.string s12.fst)]])
 fun (y14 : List ByteArray) => X10 (y14, ()))
 (decK Sy.str
 (List.map Sy.str.enc s12.snd.fst ++ [[T.v (Value.string s12.fst)]])
 fun (y15 : List ByteArray) =>
 X11 (y13.fst.snd.snd, y15, IntKind.i64.wrap (s12.snd.snd.fst + 1), ())))))
 (X10 ([], ())))
 (y3.snd.snd.snd.fst, [], 0, ()))
 fun (s16 : List ByteArray × PUnit) =>
 loopK (Bool × Int × PUnit)
 (fun (X17 : Bool × Int × PUnit → Prop) (s18 : Bool × Int × PUnit) =>
 iteP (decide (s18.snd.fst < (↑(List.map Sy.str.enc s16.fst).length : Int)))
 (rowsK Sy.str (List.map Sy.str.enc s16.fst) s18.snd.fst fun (y19 : ByteArray) =>
 partK Sy.str (List.map Sy.str.enc s16.fst) (Int.toNat s18.snd.fst) 0
 fun (y20 : ByteArray) =>
 iteP s18.fst (X17 (true, IntKind.i64.wrap (s18.snd.fst + 1), ()))
 (X17 (decide (y20 = a1), IntKind.i64.wrap (s18.snd.fst + 1), ())))
 (optK (Option (Nat × D))
 (findD TypeDesc.string (Value.string y3.snd.snd.snd.fst)
 (List.map (encE Sy.str false Sy.bool) s2.snd.fst) 0)
 fun (y21 : Option (Nat × D)) =>
 iteP s18.fst
 (reqK
 (decide (((List.map Sy.str.enc s2.fst).length + 1) * 16 ≤ 140737488355328) &&
 decide ((List.map Sy.str.enc s2.fst).length + 1 ≤ 140737488355328))
 (decK Sy.str
 (List.map Sy.str.enc s2.fst ++ [[T.v (Value.string y3.fst)]])
 fun (y22 : List ByteArray) =>
 decMK Sy.str false Sy.bool
 (setEnt (List.map (encE Sy.str false Sy.bool) s2.snd.fst) y21
 (Value.string y3.snd.snd.snd.fst) (D.p (T.v (Value.bool s18.fst))))
 fun (y23 : List (ByteArray × Bool)) =>
 X1 (y22, y23, IntKind.i64.wrap (s2.snd.snd.fst + 1), ())))
 (decK Sy.str (List.map Sy.str.enc s2.fst) fun (y24 : List ByteArray) =>
 decMK Sy.str false Sy.bool
 (setEnt (List.map (encE Sy.str false Sy.bool) s2.snd.fst) y21
 (Value.string y3.snd.snd.snd.fst) (D.p (T.v (Value.bool s18.fst))))
 fun (y25 : List (ByteArray × Bool)) =>
 X1 (y24, y25, IntKind.i64.wrap (s2.snd.snd.fst + 1), ()))))
 (false, 0, ()))
 fun (i4 : Nat) (y5 : Bool) =>
 iteP y5
 (reqK
 (decide (((List.map Sy.str.enc s2.fst).length + 1) * 16 ≤ 140737488355328) &&
 decide ((List.map Sy.str.enc s2.fst).length + 1 ≤ 140737488355328))
 (decK Sy.str (List.map Sy.str.enc s2.fst ++ [[T.v (Value.string y3.fst)]])
 fun (y6 : List ByteArray) =>
 decMK Sy.str false Sy.bool
 (List.map (encE Sy.str false Sy.bool) s2.snd.fst)
 fun (y7 : List (ByteArray × Bool)) => X1 (y6, y7, IntKind.i64.wrap (s2.snd.snd.fst + 1), ())))
 (decK Sy.str (List.map Sy.str.enc s2.fst) fun (y8 : List ByteArray) =>
 decMK Sy.str false Sy.bool
 (List.map (encE Sy.str false Sy.bool) s2.snd.fst)
 fun (y9 : List (ByteArray × Bool)) => X1 (y8, y9, IntKind.i64.wrap (s2.snd.snd.fst + 1), ())))
 (R (T.sl false (List.map Sy.str.enc s2.fst))))
 ([], y0, 0, ())
theorem F_nparts_eq (a0 : TDesign) (a1 : ByteArray) (R : T → Prop) : sxTop stdC2 Tryz.prog E_nparts H_nparts 8 18 [encV true yDesign a0, encV false Sy.str a1] R = F_nparts a0 a1 R := by kernel_rfl
abbrev s_nparts : Sh := [(true, yDesign), (false, Sy.str)]
abbrev r_nparts : Sh := [(false, Sy.str.li)]
theorem r_nparts_call (y : Sh.den r_nparts) (K : Sh.den r_nparts → Prop) : callK r_nparts (some (Sh.enc r_nparts y)) K = K y := callK_enc rfl y K

noncomputable def g_nparts : List T → Option (T) := gS s_nparts sp_nparts
theorem g_nparts_at {a0 : TDesign} {a1 : ByteArray} : g_nparts [encV true yDesign a0, T.v (Value.string a1)] = sp_nparts (a0, a1) := gS_enc (s := s_nparts) rfl (a0, a1) rfl
theorem g_nparts_op {u0 u1 u2 u3 u4 u5 u6} : g_nparts [T.agg
    [T.v (Value.string u0), T.sl false (List.map yNode.enc u1),
      T.sl false (List.map yPart.enc u2),
      T.sl false (List.map ySeam.enc u3),
      T.sl false (List.map yPackage.enc u4),
      T.sl false (List.map yNeed.enc u5)],
  T.v (Value.string u6)] = sp_nparts ((u0, (u1, (u2, (u3, (u4, u5))))), u6) := gS_enc (s := s_nparts) rfl ((u0, (u1, (u2, (u3, (u4, u5))))), u6) rfl
theorem of_nparts (h : ∀ (a0 : TDesign) (a1 : ByteArray) (r : T), sp_nparts (a0, a1) = some r → BdSh s_nparts (a0, a1) → F_nparts a0 a1 (fun y => y = r)) : PureFn Tryz.prog 18 g_nparts :=
  pureFn_S (E := E_nparts) (Hs := H_nparts) Eok_nparts mixed' plain' (noHeap_of rfl) 8 ⟨_, _, Tryz.func18, rfl⟩ rfl fun x r h1 h2 => by
    obtain ⟨a0, a1⟩ := x
    rw [show Sh.encs s_nparts (a0, a1) = [encV true yDesign a0, encV false Sy.str a1] from rfl, F_nparts_eq]
    exact h a0 a1 r h1 h2

theorem fn_nparts : PureFn Tryz.prog 18 g_nparts := of_nparts fun d node r h hb => by
  obtain ⟨_, hli, _, rfl⟩ := onlyC_of h
  have hl : d.2.2.1.length ≤ 100 := by
    simp only [light, Bool.and_eq_true, decide_eq_true_eq] at hli
    omega
  clear h
  unfold F_nparts
  refine decMK_eS (r := .bool) rfl [] _ ?_
  refine loopK_ix d.2.2.1.length (fun k s => ∃ es, s = (((d.2.2.1.take k).filter (nIn d node)).map (fun n => n.1), es, (k : Int), ()) ∧ ∀ id b, getL es id = some b → b = memB (up d id).1 node) ⟨[], rfl, fun id b h => by cases h⟩ ?_
  rintro X k s hk ⟨es, rfl, hes⟩ hX
  have hlen := nfilt_len (c := nIn d node) (f := fun n => n.1) (l := d.2.2.1) (k := k)
  dsimp only
  by_cases hlt : k < d.2.2.1.length
  · have hw : IntKind.i64.wrap ((k : Int) + 1) = ((k + 1 : Nat) : Int) := wrap_id _ (by omega) (by omega)
    refine iteP_yes (by simp [hlt]) ?_
    rw [rowsK_at (r := yPart) hlt]
    generalize hpe : d.2.2.1[k] = p
    refine findK_S (r := .bool) (fun hno => ?_) (fun i v hv => ?_)
    · rw [joinK_def]
      have go : ∀ ls, ls = (up d (pNode p)).1 → ls.length ≤ 65 → loopK (Bool × Int × PUnit) (fun (X17 : Bool × Int × PUnit → Prop) (s18 : Bool × Int × PUnit) => iteP (decide (s18.snd.fst < (↑(List.map Sy.str.enc ls).length : Int)))
            (rowsK Sy.str (List.map Sy.str.enc ls) s18.snd.fst fun (y19 : ByteArray) => partK Sy.str (List.map Sy.str.enc ls) (Int.toNat s18.snd.fst) 0 fun (y20 : ByteArray) => iteP s18.fst (X17 (true, IntKind.i64.wrap (s18.snd.fst + 1), ())) (X17 (decide (y20 = node), IntKind.i64.wrap (s18.snd.fst + 1), ())))
            (optK (Option (Nat × D)) (findD TypeDesc.string (Value.string p.snd.snd.snd.fst) (List.map (encE Sy.str false Sy.bool) es) 0) fun (y21 : Option (Nat × D)) =>
              iteP s18.fst (reqK (decide (((List.map Sy.str.enc (((d.2.2.1.take k).filter (nIn d node)).map (fun n => n.1))).length + 1) * 16 ≤ 140737488355328) && decide ((List.map Sy.str.enc (((d.2.2.1.take k).filter (nIn d node)).map (fun n => n.1))).length + 1 ≤ 140737488355328))
                  (decK Sy.str (List.map Sy.str.enc (((d.2.2.1.take k).filter (nIn d node)).map (fun n => n.1)) ++ [[T.v (Value.string p.fst)]]) fun (y22 : List ByteArray) => decMK Sy.str false Sy.bool (setEnt (List.map (encE Sy.str false Sy.bool) es) y21 (Value.string p.snd.snd.snd.fst) (D.p (T.v (Value.bool s18.fst)))) fun (y23 : List (ByteArray × Bool)) => X (y22, y23, IntKind.i64.wrap ((k : Int) + 1), ())))
                (decK Sy.str (List.map Sy.str.enc (((d.2.2.1.take k).filter (nIn d node)).map (fun n => n.1))) fun (y24 : List ByteArray) => decMK Sy.str false Sy.bool (setEnt (List.map (encE Sy.str false Sy.bool) es) y21 (Value.string p.snd.snd.snd.fst) (D.p (T.v (Value.bool s18.fst)))) fun (y25 : List (ByteArray × Bool)) => X (y24, y25, IntKind.i64.wrap ((k : Int) + 1), ()))))
          (false, 0, ()) := by
        intro ls hls hll
        have hin : nIn d node p = memB ls node := by rw [hls]; rfl
        refine loopK_ix ls.length (fun j s => s = (memB (ls.take j) node, (j : Int), ())) (by simp [memB]) ?_
        rintro Y j s hj rfl hY
        dsimp only
        by_cases hlj : j < ls.length
        · refine iteP_yes (by simp [hlj]) ?_
          have hs : memB (ls.take (j + 1)) node = (memB (ls.take j) node || decide (ls[j] = node)) := by
            unfold memB; rw [List.take_succ_eq_append_getElem hlj, List.any_append]; simp
          have hj1 : IntKind.i64.wrap ((j : Int) + 1) = ((j + 1 : Nat) : Int) := wrap_id _ (by omega) (by omega)
          rw [rowsK_at (r := .str) hlj, Int.toNat_natCast, partK_at (r := .str) hlj]
          refine ifB (fun hf => hY _ hlj ?_) (fun hf => hY _ hlj ?_)
          · rw [hs, hf, hj1]; rfl
          · rw [hs, hf, hj1]; rfl
        · have : j = ls.length := by omega
          subst this
          refine iteP_no (by simp) ?_
          rw [List.take_length]
          have hes' : ∀ id b, getL (insL es p.2.2.2.1 (memB ls node)) id = some b → b = memB (up d id).1 node := by
            intro id b hb
            rw [getL_ins] at hb
            split at hb
            · rename_i e; cases hb; rw [← e, hls]
            · exact hes id b hb
          have ins := fun (K : List (ByteArray × Bool) → Prop) (hK : K (insL es p.2.2.2.1 (memB ls node))) => ins_S (r := .bool) rfl (es := es) (k := p.2.2.2.1) (v := memB ls node) hK
          rcases hb2 : memB ls node with _ | _
          · rw [hb2] at ins hes' hin
            obtain ⟨y, h1, h2⟩ := ins (fun es' => X (((d.2.2.1.take k).filter (nIn d node)).map (fun n => n.1), es', IntKind.i64.wrap ((k : Int) + 1), ())) (hX _ hlt ⟨_, by rw [nfilt_no hlt (by rw [hpe]; exact hin), hw], hes'⟩)
            refine ⟨y, h1, ?_⟩
            show iteP false _ _
            rw [iteP_f, decK_map (r := .str) rfl]
            exact h2
          · rw [hb2] at ins hes' hin
            obtain ⟨y, h1, h2⟩ := ins (fun es' => X (((d.2.2.1.take k).filter (nIn d node)).map (fun n => n.1) ++ [p.1], es', IntKind.i64.wrap ((k : Int) + 1), ())) (hX _ hlt ⟨_, by rw [nfilt_yes hlt (by rw [hpe]; exact hin), hw, hpe], hes'⟩)
            refine ⟨y, h1, ?_⟩
            show iteP true _ _
            rw [iteP_t, app_ok (by omega), dec_snoc]
            exact h2
      refine nclimb_loop (d := d) (pNode p) (Fd := fun id' l' => decK Sy.str (List.map Sy.str.enc l' ++ [[T.v (Value.string id')]]) _) (fun hu => go [] (by rw [hu]) (by simp)) (fun id' l' hl' hu => ?_)
      rw [dec_snoc]
      exact go _ (by rw [hu]) (by simp; omega)
    · have hv' := hes _ _ hv
      refine ifB (fun h1 => ?_) (fun h1 => ?_)
      · rw [app_ok (by omega), dec_snoc]
        exact decMK_eS (r := .bool) rfl es _ (hX _ hlt ⟨es, by rw [nfilt_yes hlt (by rw [hpe]; exact hv'.symm.trans h1), hw, hpe], hes⟩)
      · rw [decK_map (r := .str) rfl]
        exact decMK_eS (r := .bool) rfl es _ (hX _ hlt ⟨es, by rw [nfilt_no hlt (by rw [hpe]; exact hv'.symm.trans h1), hw], hes⟩)
  · have : k = d.2.2.1.length := by omega
    subst this
    refine iteP_no (by simp) ?_
    rw [List.take_length]; rfl
end Go.Pv
set_option linter.unusedSimpArgs false
set_option linter.unusedVariables false
set_option maxRecDepth 100000
namespace Go.Pv
open Go Go.Proofs
set_option maxRecDepth 100000
noncomputable def E_lawLow : Env := Env.of [(7, .pure g_valid18), (11, .pure g_has18), (8, .pure g_awake18), (9, .pure g_home), (18, .pure g_nparts), (10, .pure g_path0)]
def H_lawLow : FuncId → Hint := fun f => match f == 6 with | true => ⟨fun r => match r == 4 with | true => .inv [.val 5 false (.int .i64)] | false => match r == 12 with | true => .inv [.val 9 false .bool, .val 10 false (.int .i64)] | false => .none, fun _ _ => none, fun _ => none⟩ | false => noHint
theorem Eok_lawLow : EnvOk Tryz.prog E_lawLow := EnvOk.cons (x := .pure g_valid18) fn_valid18 (EnvOk.cons (x := .pure g_has18) fn_has18 (EnvOk.cons (x := .pure g_awake18) fn_awake18 (EnvOk.cons (x := .pure g_home) fn_home (EnvOk.cons (x := .pure g_nparts) fn_nparts (EnvOk.cons (x := .pure g_path0) fn_path0 (EnvOk.nil _))))))
def F_lawLow (a0 : TDesign) (a1 : TMaterials) (R : T → Prop) : Prop :=
 callK [(false, Sy.bool)]
 (g_valid18 [encV true yDesign a0, encV true yMaterials a1]) fun (y0 : Bool) =>
 iteP (!y0)
 (callK [(false, Sy.bool)] (g_awake18 []) fun (y1 : Bool) => R (T.v (Value.bool y1)))
 (loopK (Int × PUnit)
 (fun (X2 : Int × PUnit → Prop) (s3 : Int × PUnit) =>
 iteP (decide (s3.fst < (↑(List.map ySeam.enc a0.snd.snd.snd.fst).length : Int)))
 (rowsK ySeam (List.map ySeam.enc a0.snd.snd.snd.fst) s3.fst fun (y4 : TSeam) =>
 callK [(false, Sy.str), (false, Sy.bool)]
 (g_home [encV true yDesign a0, T.v (Value.string y4.fst)])
 fun (y5 : ByteArray × Bool) =>
 iteP (!y5.snd) (R (T.v (Value.bool false)))
 (loopK (Bool × Int × PUnit)
 (fun (X6 : Bool × Int × PUnit → Prop) (s7 : Bool × Int × PUnit) =>
 iteP (decide (s7.snd.fst < (↑(List.map yNode.enc a0.snd.fst).length : Int)))
 (rowsK yNode (List.map yNode.enc a0.snd.fst) s7.snd.fst
 fun (y8 : TNode) =>
 callK [(false, Sy.str.li)]
 (g_nparts [encV true yDesign a0, T.v (Value.string y8.fst)])
 fun (y9 : List ByteArray) =>
 callK [(false, Sy.bool)]
 (g_has18
 [T.sl false (List.map Sy.str.enc y9), T.v (Value.string y4.snd.fst)])
 fun (y10 : Bool) =>
 iteP y10
 (callK [(false, Sy.bool)]
 (g_has18
 [T.sl false (List.map Sy.str.enc y9),
 T.v (Value.string y4.snd.snd.fst)])
 fun (y11 : Bool) =>
 iteP s7.fst
 (iteP y11
 (iteP (decide (y5.fst = { data := #[] }))
 (R (T.v (Value.bool false)))
 (callK [(false, Sy.str.li)]
 (g_path0
 [encV true yDesign a0, T.v (Value.string y8.fst)])
 fun (y12 : List ByteArray) =>
 callK [(false, Sy.str.li)]
 (g_path0
 [encV true yDesign a0, T.v (Value.string y5.fst)])
 fun (y13 : List ByteArray) =>
 iteP
 (decide
 ((↑(List.map Sy.str.enc y13).length : Int) <
 (↑(List.map Sy.str.enc y12).length : Int)))
 (R (T.v (Value.bool false)))
 (X6 (true, IntKind.i64.wrap (s7.snd.fst + 1), ()))))
 (X6 (true, IntKind.i64.wrap (s7.snd.fst + 1), ())))
 (iteP (decide (y8.fst = y5.fst))
 (iteP y11
 (iteP (decide (y5.fst = { data := #[] }))
 (R (T.v (Value.bool false)))
 (callK [(false, Sy.str.li)]
 (g_path0
 [encV true yDesign a0, T.v (Value.string y8.fst)])
 fun (y14 : List ByteArray) =>
 callK [(false, Sy.str.li)]
 (g_path0
 [encV true yDesign a0, T.v (Value.string y5.fst)])
 fun (y15 : List ByteArray) =>
 iteP
 (decide
 ((↑(List.map Sy.str.enc y15).length : Int) <
 (↑(List.map Sy.str.enc y14).length : Int)))
 (R (T.v (Value.bool false)))
 (X6 (y11, IntKind.i64.wrap (s7.snd.fst + 1), ()))))
 (X6 (y11, IntKind.i64.wrap (s7.snd.fst + 1), ())))
 (iteP y11
 (iteP (decide (y5.fst = { data := #[] }))
 (R (T.v (Value.bool false)))
 (callK [(false, Sy.str.li)]
 (g_path0
 [encV true yDesign a0, T.v (Value.string y8.fst)])
 fun (y16 : List ByteArray) =>
 callK [(false, Sy.str.li)]
 (g_path0
 [encV true yDesign a0, T.v (Value.string y5.fst)])
 fun (y17 : List ByteArray) =>
 iteP
 (decide
 ((↑(List.map Sy.str.enc y17).length : Int) <
 (↑(List.map Sy.str.enc y16).length : Int)))
 (R (T.v (Value.bool false)))
 (X6 (false, IntKind.i64.wrap (s7.snd.fst + 1), ()))))
 (X6 (false, IntKind.i64.wrap (s7.snd.fst + 1), ())))))
 (iteP s7.fst (X6 (true, IntKind.i64.wrap (s7.snd.fst + 1), ()))
 (iteP (decide (y8.fst = y5.fst))
 (X6 (false, IntKind.i64.wrap (s7.snd.fst + 1), ()))
 (X6 (false, IntKind.i64.wrap (s7.snd.fst + 1), ())))))
 (iteP (!s7.fst) (R (T.v (Value.bool false)))
 (X2 (IntKind.i64.wrap (s3.fst + 1), ()))))
 (decide (y5.fst = { data := #[] }), 0, ())))
 (callK [(false, Sy.bool)] (g_awake18 []) fun (y18 : Bool) =>
 R (T.v (Value.bool y18))))
 (0, ()))
theorem F_lawLow_eq (a0 : TDesign) (a1 : TMaterials) (R : T → Prop) : sxTop stdC2 Tryz.prog E_lawLow H_lawLow 8 6 [encV true yDesign a0, encV true yMaterials a1] R = F_lawLow a0 a1 R := by kernel_rfl
abbrev s_lawLow : Sh := [(true, yDesign), (true, yMaterials)]
abbrev r_lawLow : Sh := [(false, Sy.bool)]
theorem r_lawLow_call (y : Sh.den r_lawLow) (K : Sh.den r_lawLow → Prop) : callK r_lawLow (some (Sh.enc r_lawLow y)) K = K y := callK_enc rfl y K

set_option maxRecDepth 100000
noncomputable def E_lawPlaces : Env := Env.of [(7, .pure g_valid18), (11, .pure g_has18), (8, .pure g_awake18), (9, .pure g_home), (10, .pure g_path0), (12, .pure g_shop), (13, .pure g_erection)]
def H_lawPlaces : FuncId → Hint := fun f => match f == 3 with | true => ⟨fun r => match r == 4 with | true => .inv [.val 5 false (.int .i64)] | false => match r == 13 with | true => .inv [.val 10 false (.int .i64), .val 11 false (.int .i64), .val 12 false (.int .i64)] | false => .none, fun _ _ => none, fun _ => none⟩ | false => noHint
theorem Eok_lawPlaces : EnvOk Tryz.prog E_lawPlaces := EnvOk.cons (x := .pure g_valid18) fn_valid18 (EnvOk.cons (x := .pure g_has18) fn_has18 (EnvOk.cons (x := .pure g_awake18) fn_awake18 (EnvOk.cons (x := .pure g_home) fn_home (EnvOk.cons (x := .pure g_path0) fn_path0 (EnvOk.cons (x := .pure g_shop) fn_shop (EnvOk.cons (x := .pure g_erection) fn_erection (EnvOk.nil _)))))))
def F_lawPlaces (a0 : TDesign) (a1 : TMaterials) (R : T → Prop) : Prop :=
 callK [(false, Sy.bool)]
 (g_valid18 [encV true yDesign a0, encV true yMaterials a1]) fun (y0 : Bool) =>
 iteP (!y0)
 (callK [(false, Sy.bool)] (g_awake18 []) fun (y1 : Bool) => R (T.v (Value.bool y1)))
 (loopK (Int × PUnit)
 (fun (X2 : Int × PUnit → Prop) (s3 : Int × PUnit) =>
 iteP (decide (s3.fst < (↑(List.map ySeam.enc a0.snd.snd.snd.fst).length : Int)))
 (rowsK ySeam (List.map ySeam.enc a0.snd.snd.snd.fst) s3.fst fun (y4 : TSeam) =>
 callK [(false, Sy.str), (false, Sy.bool)]
 (g_home [encV true yDesign a0, T.v (Value.string y4.fst)])
 fun (y5 : ByteArray × Bool) =>
 iteP (!y5.snd) (R (T.v (Value.bool false)))
 (callK [(false, Sy.str.li)]
 (g_path0 [encV true yDesign a0, T.v (Value.string y5.fst)])
 fun (y6 : List ByteArray) =>
 loopK (Int × Int × Int × PUnit)
 (fun (X7 : Int × Int × Int × PUnit → Prop) (s8 : Int × Int × Int × PUnit) =>
 iteP (decide (s8.snd.snd.fst < (↑(List.map yNode.enc a0.snd.fst).length : Int)))
 (rowsK yNode (List.map yNode.enc a0.snd.fst) s8.snd.snd.fst
 fun (y9 : TNode) =>
 callK [(false, Sy.str.li)]
 (g_shop [encV true yDesign a0, T.v (Value.string y9.fst)])
 fun (y10 : List ByteArray) =>
 callK [(false, Sy.bool)]
 (g_has18
 [T.sl false (List.map Sy.str.enc y10), T.v (Value.string y4.fst)])
 fun (y11 : Bool) =>
 iteP y11
 (iteP (decide (y5.fst = { data := #[] })) (R (T.v (Value.bool false)))
 (rowsK yNode (List.map yNode.enc a0.snd.fst) s8.snd.snd.fst
 fun (y12 : TNode) =>
 callK [(false, Sy.bool)]
 (g_has18
 [T.sl false (List.map Sy.str.enc y6),
 T.v (Value.string y12.fst)])
 fun (y13 : Bool) =>
 iteP (!y13) (R (T.v (Value.bool false)))
 (rowsK yNode (List.map yNode.enc a0.snd.fst) s8.snd.snd.fst
 fun (y14 : TNode) =>
 callK [(false, Sy.str.li)]
 (g_erection
 [encV true yDesign a0, T.v (Value.string y14.fst)])
 fun (y15 : List ByteArray) =>
 callK [(false, Sy.bool)]
 (g_has18
 [T.sl false (List.map Sy.str.enc y15),
 T.v (Value.string y4.fst)])
 fun (y16 : Bool) =>
 iteP y16
 (X7
 (IntKind.i64.wrap (s8.fst + 1),
 IntKind.i64.wrap (s8.snd.fst + 1),
 IntKind.i64.wrap (s8.snd.snd.fst + 1), ()))
 (X7
 (IntKind.i64.wrap (s8.fst + 1), s8.snd.fst,
 IntKind.i64.wrap (s8.snd.snd.fst + 1), ())))))
 (rowsK yNode (List.map yNode.enc a0.snd.fst) s8.snd.snd.fst
 fun (y17 : TNode) =>
 callK [(false, Sy.str.li)]
 (g_erection
 [encV true yDesign a0, T.v (Value.string y17.fst)])
 fun (y18 : List ByteArray) =>
 callK [(false, Sy.bool)]
 (g_has18
 [T.sl false (List.map Sy.str.enc y18),
 T.v (Value.string y4.fst)])
 fun (y19 : Bool) =>
 iteP y19
 (X7
 (s8.fst, IntKind.i64.wrap (s8.snd.fst + 1),
 IntKind.i64.wrap (s8.snd.snd.fst + 1), ()))
 (X7 (s8.fst, s8.snd.fst, IntKind.i64.wrap (s8.snd.snd.fst + 1), ()))))
 (iteP (decide (y5.fst = { data := #[] }))
 (iteP (!decide (s8.fst = 0)) (R (T.v (Value.bool false)))
 (iteP (!decide (s8.snd.fst = 2)) (R (T.v (Value.bool false)))
 (iteP (!decide (y5.fst = { data := #[] }))
 (iteP (!decide (s8.fst = (↑(List.map Sy.str.enc y6).length : Int)))
 (R (T.v (Value.bool false)))
 (iteP (!decide (s8.snd.fst = 0)) (R (T.v (Value.bool false)))
 (iteP (decide (s8.fst = 0)) (R (T.v (Value.bool false)))
 (X2 (IntKind.i64.wrap (s3.fst + 1), ())))))
 (X2 (IntKind.i64.wrap (s3.fst + 1), ())))))
 (iteP (!decide (y5.fst = { data := #[] }))
 (iteP (!decide (s8.fst = (↑(List.map Sy.str.enc y6).length : Int)))
 (R (T.v (Value.bool false)))
 (iteP (!decide (s8.snd.fst = 0)) (R (T.v (Value.bool false)))
 (iteP (decide (s8.fst = 0)) (R (T.v (Value.bool false)))
 (X2 (IntKind.i64.wrap (s3.fst + 1), ())))))
 (X2 (IntKind.i64.wrap (s3.fst + 1), ())))))
 (0, 0, 0, ())))
 (callK [(false, Sy.bool)] (g_awake18 []) fun (y20 : Bool) =>
 R (T.v (Value.bool y20))))
 (0, ()))
theorem F_lawPlaces_eq (a0 : TDesign) (a1 : TMaterials) (R : T → Prop) : sxTop stdC2 Tryz.prog E_lawPlaces H_lawPlaces 8 3 [encV true yDesign a0, encV true yMaterials a1] R = F_lawPlaces a0 a1 R := by kernel_rfl
abbrev s_lawPlaces : Sh := [(true, yDesign), (true, yMaterials)]
abbrev r_lawPlaces : Sh := [(false, Sy.bool)]
theorem r_lawPlaces_call (y : Sh.den r_lawPlaces) (K : Sh.den r_lawPlaces → Prop) : callK r_lawPlaces (some (Sh.enc r_lawPlaces y)) K = K y := callK_enc rfl y K

theorem low_both {d : TDesign} {m : TMaterials} {s : TSeam} {a b : ByteArray} (V : Valid d m) (P : SeamP d s a b) {n : ByteArray} (hn : (nodeOf d n).isSome = true) (h : (memB (pathOf d s.2.1) n && memB (pathOf d s.2.2.1) n) = true) : way d s ≠ [] ∧ (path0 d n).length ≤ (path0 d (last (way d s))).length := by
  rw [Bool.and_eq_true, memB_iff, memB_iff] at h
  obtain ⟨w, hw⟩ := both_in P h.1 h.2
  have h1 := (path_self (node_up V hn).1).1
  rw [home_path V P, node_path hn, hw]
  exact ⟨by simp [h1], by simp⟩
theorem low_found {d : TDesign} {m : TMaterials} {s : TSeam} {a b : ByteArray} (V : Valid d m) (P : SeamP d s a b) : (decide (last (way d s) = ⟨#[]⟩) || d.2.1.any fun n => decide (n.1 = last (way d s)) && (memB (pathOf d s.2.1) n.1 && memB (pathOf d s.2.2.1) n.1)) = true := by
  by_cases h : way d s = []
  · rw [decide_eq_true ((home_empty V P).2 h)]; rfl
  · obtain ⟨_, _, h1, h2⟩ := way_home P h
    obtain ⟨u, hu⟩ := snoc_last h
    have hl : last (way d s) ∈ way d s := by rw [hu, last_snoc]; simp
    have h3 := (node_up V ((way_nodes P).2 _ hl)).2.2
    obtain ⟨x, hx, e⟩ := List.mem_map.1 h3
    rw [Bool.or_eq_true]
    refine .inr (List.any_eq_true.2 ⟨x, hx, ?_⟩)
    rw [e, decide_eq_true rfl, memB_iff.2 h1, memB_iff.2 h2]; rfl
theorem node_at {d : TDesign} {n : TNode} (h : n ∈ d.2.1) : (nodeOf d n.1).isSome = true := by
  unfold nodeOf
  rw [List.find?_isSome]
  exact ⟨n, h, decide_eq_true rfl⟩
theorem count_shop {d : TDesign} {m : TMaterials} {s : TSeam} {a b : ByteArray} (V : Valid d m) (P : SeamP d s a b) : (d.2.1.filter fun n => memB (way d s) n.1).length = (way d s).length :=
  count_way V.nodes (way_nodes P).1 fun x hx => (node_up V ((way_nodes P).2 x hx)).2.2
theorem count_erect {d : TDesign} {m : TMaterials} {s : TSeam} {a b : ByteArray} (V : Valid d m) (P : SeamP d s a b) : (d.2.1.filter fun n => erectC d n.1 s).length = if way d s = [] then 2 else 0 := by
  by_cases h : way d s = []
  · rw [if_pos h]
    obtain ⟨a1, _, a3⟩ := path_self P.upA
    obtain ⟨b1, _, b3⟩ := path_self P.upB
    have hw : comm (pathN d a) (pathN d b) = [] := by rw [← P.pA, ← P.pB]; exact h
    have hne : headOf (pathN d a) ≠ headOf (pathN d b) ∧ headOf (pathN d a) ∈ pathN d a ∧ headOf (pathN d b) ∈ pathN d b := by
      cases ha : pathN d a with
      | nil => exact absurd ha a1
      | cons x u =>
        cases hb : pathN d b with
        | nil => exact absurd hb b1
        | cons y v =>
          rw [ha, hb] at hw
          refine ⟨fun e => ?_, List.mem_cons_self, List.mem_cons_self⟩
          have e : x = y := e
          unfold comm at hw
          rw [if_pos e] at hw
          cases hw
    have := count_or hne.1 V.nodes
    rw [memB_iff.2 (node_up V (a3 _ hne.2.1)).2.2, memB_iff.2 (node_up V (b3 _ hne.2.2)).2.2] at this
    rw [show ((true.toNat + true.toNat : Nat)) = 2 from rfl] at this
    rw [← this]
    congr 2
    funext n
    unfold erectC
    rw [seam_placed P, h, P.pA, P.pB]; rfl
  · rw [if_neg h, List.length_eq_zero_iff, List.filter_eq_nil_iff]
    intro n _
    unfold erectC
    have : ¬ (way d s).length = 0 := fun e => h (List.length_eq_zero_iff.1 e)
    rw [decide_eq_false this]
    simp
theorem home_at {d : TDesign} {m : TMaterials} {s : TSeam} {a b : ByteArray} (P : SeamP d s a b) (hso : seamOf d s.1 = some s) (hok : okD d = true) : g_home [encV true yDesign d, T.v (Value.string s.1)] = some (Sh.enc [(false, .str), (false, .bool)] (last (way d s), true)) := by
  have hh : home d s.1 = (last (way d s), true) := by
    unfold home; rw [hso]; dsimp only; rw [seam_placed P]
  refine (g_home_at ..).trans ?_
  unfold sp_home
  dsimp only
  rw [onlyD_ok _ hok, hh]
def sp_lawLow (x : TDesign × TMaterials) : Option T := onlyD x.1 (.v (.bool true))
noncomputable def g_lawLow : List T → Option (T) := gS s_lawLow sp_lawLow
theorem g_lawLow_at {a0 : TDesign} {a1 : TMaterials} : g_lawLow [encV true yDesign a0, encV true yMaterials a1] = sp_lawLow (a0, a1) := gS_enc (s := s_lawLow) rfl (a0, a1) rfl
theorem g_lawLow_op {u0 u1 u2 u3 u4 u5 u6 u7} : g_lawLow [T.agg
    [T.v (Value.string u0), T.sl false (List.map yNode.enc u1),
      T.sl false (List.map yPart.enc u2),
      T.sl false (List.map ySeam.enc u3),
      T.sl false (List.map yPackage.enc u4),
      T.sl false (List.map yNeed.enc u5)],
  T.agg [T.sl false (List.map yGrade.enc u6), T.sl false (List.map ySection.enc u7)]] = sp_lawLow ((u0, (u1, (u2, (u3, (u4, u5))))), (u6, u7)) := gS_enc (s := s_lawLow) rfl ((u0, (u1, (u2, (u3, (u4, u5))))), (u6, u7)) rfl
theorem of_lawLow (h : ∀ (a0 : TDesign) (a1 : TMaterials) (r : T), sp_lawLow (a0, a1) = some r → BdSh s_lawLow (a0, a1) → F_lawLow a0 a1 (fun y => y = r)) : PureFn Tryz.prog 6 g_lawLow :=
  pureFn_S (E := E_lawLow) (Hs := H_lawLow) Eok_lawLow mixed' plain' (noHeap_of rfl) 8 ⟨_, _, Tryz.func6, rfl⟩ rfl fun x r h1 h2 => by
    obtain ⟨a0, a1⟩ := x
    rw [show Sh.encs s_lawLow (a0, a1) = [encV true yDesign a0, encV true yMaterials a1] from rfl, F_lawLow_eq]
    exact h a0 a1 r h1 h2

theorem fn_lawLow : PureFn Tryz.prog 6 g_lawLow := of_lawLow fun d m r h hb => by
  obtain ⟨hok, rfl⟩ := onlyD_of h
  replace hok : okD d = true := hok
  unfold F_lawLow
  refine callK_some (s := [(false, .bool)]) (y := validE d m) (g_valid18_at ..) ?_
  refine ifNB (fun hv => g_awake18_call' _ rfl) fun hv => ?_
  have V := valid_ok hv
  obtain ⟨l1, l2, l3⟩ := V.small
  refine loopK_ix d.2.2.2.1.length (fun k s => s.1 = (k : Int)) rfl ?_
  rintro X k ⟨i, u⟩ hk rfl hX
  dsimp only
  refine ifP (fun hlt => ?_) fun _ => g_awake18_call' _ rfl
  rw [List.length_map] at hlt
  have hlt : k < d.2.2.2.1.length := by omega
  have hmem := List.getElem_mem hlt
  obtain ⟨a, b, P⟩ := seamP V hmem
  obtain ⟨_, _, _, _, hpa, hpb⟩ := seamE_ok (V.seam _ hmem)
  obtain ⟨pa, hpa⟩ := Option.isSome_iff_exists.1 hpa
  obtain ⟨pb, hpb⟩ := Option.isSome_iff_exists.1 hpb
  have hso : seamOf d d.2.2.2.1[k].1 = some d.2.2.2.1[k] := find_at V.seams k hlt
  rw [rowsK_at (r := ySeam) hlt]
  generalize d.2.2.2.1[k] = s at *
  refine callK_some (s := [(false, .str), (false, .bool)]) (y := (last (way d s), true)) (home_at (m := m) P hso hok) ?_
  dsimp only
  rw [Bool.not_true, iteP_f]
  have hF := low_found V P
  refine loopK_ix d.2.1.length (fun j t => t.2.1 = (j : Int) ∧ (t.1 || (d.2.1.drop j).any fun n => decide (n.1 = last (way d s)) && (memB (pathOf d s.2.1) n.1 && memB (pathOf d s.2.2.1) n.1)) = true) ⟨rfl, by rw [List.drop_zero]; exact hF⟩ ?_
  rintro Y j ⟨f, i, u⟩ hj ⟨rfl, hf⟩ hY
  dsimp only at hf ⊢
  refine ifP (fun hjl => ?_) fun hjl => ?_
  · rw [List.length_map] at hjl
    have hjl : j < d.2.1.length := by omega
    have hw : IntKind.i64.wrap ((j : Int) + 1) = ((j + 1 : Nat) : Int) := wrap_id _ (by omega) (by omega)
    have hn := node_at (List.getElem_mem hjl)
    rw [List.drop_eq_getElem_cons hjl, List.any_cons] at hf
    rw [rowsK_at (r := yNode) hjl]
    have go : ∀ f', (f' || (d.2.1.drop (j + 1)).any fun n => decide (n.1 = last (way d s)) && (memB (pathOf d s.2.1) n.1 && memB (pathOf d s.2.2.1) n.1)) = true → Y (f', IntKind.i64.wrap ((j : Int) + 1), ()) := fun f' h => by
      rw [hw]; exact hY _ hjl ⟨rfl, h⟩
    have hlow : (memB (pathOf d s.2.1) d.2.1[j].1 && memB (pathOf d s.2.2.1) d.2.1[j].1) = true → way d s ≠ [] ∧ (path0 d d.2.1[j].1).length ≤ (path0 d (last (way d s))).length := fun h => low_both V P hn h
    generalize d.2.1[j] = n at *
    generalize (d.2.1.drop (j + 1)).any (fun n => decide (n.1 = last (way d s)) && (memB (pathOf d s.2.1) n.1 && memB (pathOf d s.2.2.1) n.1)) = rest at *
    refine callK_some (s := [(false, .li .str)]) (y := partsN d n.1) ((g_nparts_at ..).trans (onlyC_ok _ hok (light_up V.light))) ?_
    refine callK_some (s := [(false, .bool)]) (y := memB (pathOf d s.2.1) n.1) (by rw [g_has18_at]; unfold sp_has18; dsimp only; rw [mem_partsN V hpa]; rfl) ?_
    have p0 : ∀ id, g_path0 [encV true yDesign d, T.v (Value.string id)] = some (Sh.enc [(false, .li .str)] (path0 d id)) := fun id => (g_path0_at ..).trans (onlyD_ok _ hok)
    refine ifB (fun hba => ?_) fun hba => ?_
    · refine callK_some (s := [(false, .bool)]) (y := memB (pathOf d s.2.2.1) n.1) (by rw [g_has18_at]; unfold sp_has18; dsimp only; rw [mem_partsN V hpb]; rfl) ?_
      rw [hba] at hf hlow
      have tail : ∀ f', (f' || rest) = true → iteP (memB (pathOf d s.2.2.1) n.1) (iteP (decide (last (way d s) = { data := #[] })) (T.v (Value.bool false) = T.v (.bool true))
          (callK [(false, Sy.str.li)] (g_path0 [encV true yDesign d, T.v (Value.string n.1)]) fun (y12 : List ByteArray) => callK [(false, Sy.str.li)] (g_path0 [encV true yDesign d, T.v (Value.string (last (way d s)))]) fun (y13 : List ByteArray) =>
            iteP (decide (((List.map Sy.str.enc y13).length : Int) < ((List.map Sy.str.enc y12).length : Int))) (T.v (Value.bool false) = T.v (.bool true)) (Y (f', IntKind.i64.wrap ((j : Int) + 1), ())))) (Y (f', IntKind.i64.wrap ((j : Int) + 1), ())) := fun f' h => by
        refine ifB (fun hbb => ?_) fun hbb => go f' h
        obtain ⟨h1, h2⟩ := hlow (by rw [hbb]; rfl)
        refine ifP (fun he => absurd ((home_empty V P).1 he) h1) fun _ => ?_
        refine callK_some (p0 _) (callK_some (p0 _) ?_)
        rw [List.length_map, List.length_map]
        exact ifP (fun hc => by omega) fun _ => go f' h
      refine ifB (fun hf1 => tail true (by simp)) fun hf1 => ?_
      rw [hf1] at hf
      refine ifP (fun e => tail _ ?_) fun e => tail false ?_
      · rw [decide_eq_true e] at hf; simpa using hf
      · rw [decide_eq_false e] at hf; simpa using hf
    · rw [hba] at hf
      refine ifB (fun hf1 => go true (by simp)) fun hf1 => ?_
      rw [hf1] at hf
      have hr : (false || rest) = true := by simpa using hf
      exact ifP (fun _ => go false hr) fun _ => go false hr
  · rw [List.length_map] at hjl
    have : j = d.2.1.length := by omega
    subst this
    rw [List.drop_length] at hf
    have hf : f = true := by simpa using hf
    rw [hf, Bool.not_true, iteP_f]
    refine hX _ hlt ?_
    show IntKind.i64.wrap ((k : Int) + 1) = _
    rw [wrap_id] <;> omega
def sp_lawPlaces (x : TDesign × TMaterials) : Option T := onlyD x.1 (.v (.bool true))
noncomputable def g_lawPlaces : List T → Option (T) := gS s_lawPlaces sp_lawPlaces
theorem g_lawPlaces_at {a0 : TDesign} {a1 : TMaterials} : g_lawPlaces [encV true yDesign a0, encV true yMaterials a1] = sp_lawPlaces (a0, a1) := gS_enc (s := s_lawPlaces) rfl (a0, a1) rfl
theorem g_lawPlaces_op {u0 u1 u2 u3 u4 u5 u6 u7} : g_lawPlaces [T.agg
    [T.v (Value.string u0), T.sl false (List.map yNode.enc u1),
      T.sl false (List.map yPart.enc u2),
      T.sl false (List.map ySeam.enc u3),
      T.sl false (List.map yPackage.enc u4),
      T.sl false (List.map yNeed.enc u5)],
  T.agg [T.sl false (List.map yGrade.enc u6), T.sl false (List.map ySection.enc u7)]] = sp_lawPlaces ((u0, (u1, (u2, (u3, (u4, u5))))), (u6, u7)) := gS_enc (s := s_lawPlaces) rfl ((u0, (u1, (u2, (u3, (u4, u5))))), (u6, u7)) rfl
theorem of_lawPlaces (h : ∀ (a0 : TDesign) (a1 : TMaterials) (r : T), sp_lawPlaces (a0, a1) = some r → BdSh s_lawPlaces (a0, a1) → F_lawPlaces a0 a1 (fun y => y = r)) : PureFn Tryz.prog 3 g_lawPlaces :=
  pureFn_S (E := E_lawPlaces) (Hs := H_lawPlaces) Eok_lawPlaces mixed' plain' (noHeap_of rfl) 8 ⟨_, _, Tryz.func3, rfl⟩ rfl fun x r h1 h2 => by
    obtain ⟨a0, a1⟩ := x
    rw [show Sh.encs s_lawPlaces (a0, a1) = [encV true yDesign a0, encV true yMaterials a1] from rfl, F_lawPlaces_eq]
    exact h a0 a1 r h1 h2

theorem fn_lawPlaces : PureFn Tryz.prog 3 g_lawPlaces := of_lawPlaces fun d m r h hb => by
  obtain ⟨hok, rfl⟩ := onlyD_of h
  replace hok : okD d = true := hok
  unfold F_lawPlaces
  refine callK_some (s := [(false, .bool)]) (y := validE d m) (g_valid18_at ..) ?_
  refine ifNB (fun hv => g_awake18_call' _ rfl) fun hv => ?_
  have V := valid_ok hv
  obtain ⟨l1, l2, l3⟩ := V.small
  refine loopK_ix d.2.2.2.1.length (fun k s => s.1 = (k : Int)) rfl ?_
  rintro X k ⟨i, u⟩ hk rfl hX
  dsimp only
  refine ifP (fun hlt => ?_) fun _ => g_awake18_call' _ rfl
  rw [List.length_map] at hlt
  have hlt : k < d.2.2.2.1.length := by omega
  have hmem := List.getElem_mem hlt
  obtain ⟨a, b, P⟩ := seamP V hmem
  have hso : seamOf d d.2.2.2.1[k].1 = some d.2.2.2.1[k] := find_at V.seams k hlt
  have next : X (IntKind.i64.wrap ((k : Int) + 1), ()) := hX _ hlt (by show IntKind.i64.wrap ((k : Int) + 1) = _; rw [wrap_id] <;> omega)
  rw [rowsK_at (r := ySeam) hlt]
  generalize d.2.2.2.1[k] = s at *
  refine callK_some (s := [(false, .str), (false, .bool)]) (y := (last (way d s), true)) (home_at (m := m) P hso hok) ?_
  dsimp only
  rw [Bool.not_true, iteP_f]
  refine callK_some (s := [(false, .li .str)]) (y := way d s) ((g_path0_at ..).trans (by unfold sp_path0; dsimp only; rw [onlyD_ok _ hok, home_path V P])) ?_
  have hwl := way_len d s
  have he := home_empty V P
  refine loopK_ix d.2.1.length (fun j t => t.2.2.1 = (j : Int) ∧ 0 ≤ t.1 ∧ t.1 + ((d.2.1.drop j).filter fun n => memB (way d s) n.1).length = (way d s).length ∧ 0 ≤ t.2.1 ∧ t.2.1 + ((d.2.1.drop j).filter fun n => erectC d n.1 s).length = ((if way d s = [] then 2 else 0 : Nat) : Int)) ⟨rfl, by decide, by rw [List.drop_zero, count_shop V P]; simp, by decide, by rw [List.drop_zero, count_erect V P]; simp⟩ ?_
  rintro Y j ⟨p, q, i, u⟩ hj ⟨rfl, hp0, hp, hq0, hq⟩ hY
  dsimp only at hp0 hp hq0 hq ⊢
  have hb2 : ((if way d s = [] then 2 else 0 : Nat) : Int) ≤ 2 := by split <;> decide
  refine ifP (fun hjl => ?_) fun hjl => ?_
  · rw [List.length_map] at hjl
    have hjl : j < d.2.1.length := by omega
    have hw : IntKind.i64.wrap ((j : Int) + 1) = ((j + 1 : Nat) : Int) := wrap_id _ (by omega) (by omega)
    rw [List.drop_eq_getElem_cons hjl, List.filter_cons] at hp hq
    rw [rowsK_at (r := yNode) hjl]
    have er : ∀ p', 0 ≤ p' → p' + (((d.2.1.drop (j + 1)).filter fun n => memB (way d s) n.1).length : Int) = (way d s).length → callK [(false, Sy.str.li)] (g_erection [encV true yDesign d, T.v (Value.string d.2.1[j].1)]) fun (y15 : List ByteArray) => callK [(false, Sy.bool)] (g_has18 [T.sl false (List.map Sy.str.enc y15), T.v (Value.string s.1)]) fun (y16 : Bool) =>
        iteP y16 (Y (p', IntKind.i64.wrap (q + 1), IntKind.i64.wrap ((j : Int) + 1), ())) (Y (p', q, IntKind.i64.wrap ((j : Int) + 1), ())) := fun p' h0 h1 => by
      refine callK_some (s := [(false, .li .str)]) (y := picks d (erectC d d.2.1[j].1)) ((g_erection_at ..).trans (onlyC_ok _ hok (light_up V.light))) ?_
      refine callK_some (s := [(false, .bool)]) (y := erectC d d.2.1[j].1 s) (by rw [g_has18_at]; unfold sp_has18; dsimp only; rw [mem_picks V.seams _ hmem]; rfl) ?_
      rw [hw]
      refine ifB (fun h => ?_) fun h => ?_
      · rw [if_pos h, List.length_cons] at hq
        rw [wrap_id (q + 1) (by omega) (by omega)]
        exact hY _ hjl ⟨rfl, h0, h1, by show 0 ≤ q + 1; omega, by show q + 1 + _ = _; omega⟩
      · rw [if_neg (by rw [h]; decide)] at hq
        exact hY _ hjl ⟨rfl, h0, h1, hq0, hq⟩
    refine callK_some (s := [(false, .li .str)]) (y := picks d (shopC d d.2.1[j].1)) ((g_shop_at ..).trans (onlyC_ok _ hok (light_up V.light))) ?_
    refine callK_some (s := [(false, .bool)]) (y := memB (way d s) d.2.1[j].1) (by rw [g_has18_at]; unfold sp_has18; dsimp only; rw [mem_picks V.seams _ hmem]; rfl) ?_
    refine ifB (fun h => ?_) fun h => ?_
    · rw [if_pos h, List.length_cons] at hp
      have hne : way d s ≠ [] := fun e => by rw [e] at h; cases h
      refine ifP (fun e => absurd (he.1 e) hne) fun _ => ?_
      rw [rowsK_at (r := yNode) hjl]
      refine callK_some (s := [(false, .bool)]) (y := memB (way d s) d.2.1[j].1) (by rw [g_has18_at]; rfl) ?_
      rw [h, Bool.not_true, iteP_f, rowsK_at (r := yNode) hjl, wrap_id (p + 1) (by omega) (by omega)]
      exact er (p + 1) (by omega) (by omega)
    · rw [if_neg (by rw [h]; decide)] at hp
      rw [rowsK_at (r := yNode) hjl]
      exact er p hp0 hp
  · rw [List.length_map] at hjl
    have : j = d.2.1.length := by omega
    subst this
    rw [List.drop_length] at hp hq
    have hp : p = (way d s).length := by simpa using hp
    have hq : q = ((if way d s = [] then 2 else 0 : Nat) : Int) := by simpa using hq
    rw [List.length_map]
    by_cases hne : way d s = []
    · rw [if_pos hne] at hq
      rw [hne] at hp
      have hp : p = 0 := by simpa using hp
      have hq : q = 2 := by simpa using hq
      refine ifP (fun _ => ?_) fun e => absurd (he.2 hne) e
      refine ifQ (fun h => absurd hp h) fun _ => ?_
      refine ifQ (fun h => absurd hq h) fun _ => ?_
      exact ifQ (fun h => absurd (he.2 hne) h) fun _ => next
    · rw [if_neg hne] at hq
      have hq : q = 0 := by simpa using hq
      have hl : 0 < (way d s).length := List.length_pos_iff.2 hne
      refine ifP (fun e => absurd (he.1 e) hne) fun _ => ?_
      refine ifQ (fun _ => ?_) fun _ => next
      refine ifQ (fun h => absurd hp h) fun _ => ?_
      refine ifQ (fun h => absurd hq h) fun _ => ?_
      exact ifP (fun h => by omega) fun _ => next
end Go.Pv
