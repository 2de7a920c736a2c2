/-
  The lists of seams, as the reference makes them.
-/
import Derived.Test.YtlpcelingpgmfaaDoorPsx
set_option linter.unusedSimpArgs false
set_option linter.unusedVariables false
set_option maxRecDepth 100000
namespace Go.Pv
open Go Go.Proofs
def hasS (l : List ByteArray) (x : ByteArray) : Bool := l.any fun y => decide (y = x)
def sp_contains (x : List ByteArray × ByteArray) : Option T := some (Sh.enc r_b (hasS x.1 x.2))
def sp_same (x : List ByteArray × List ByteArray) : Option T := some (Sh.enc r_b (decide (x.1 = x.2)))
def headOf (l : List ByteArray) : ByteArray := l.headD ⟨#[]⟩
def shopC (d : TDesign) (id : ByteArray) (s : TSeam) : Bool := hasS (way d s) id
def erectC (d : TDesign) (id : ByteArray) (s : TSeam) : Bool := placed d s && decide ((way d s).length = 0) && (decide (headOf (pathOf d s.2.1) = id) || decide (headOf (pathOf d s.2.2.1) = id))
def sp_shop (x : TDesign × ByteArray) : Option T := onlyL x.1 (Sh.enc r_ls (picks x.1 (shopC x.1 x.2)))
def sp_erection (x : TDesign × ByteArray) : Option T := onlyL x.1 (Sh.enc r_ls (picks x.1 (erectC x.1 x.2)))
abbrev sp_shop18 := sp_shop
abbrev sp_erection18 := sp_erection
abbrev sp_touches18 := sp_touches
set_option maxRecDepth 100000
noncomputable def E_contains : Env := Env.of []
def H_contains : FuncId → Hint := fun f => match f == 46 with | true => ⟨fun r => match r == 2 with | true => .inv [.val 8 false (.int .i64)] | false => .none, fun _ _ => none, fun _ => none⟩ | false => noHint
theorem Eok_contains : EnvOk Tryd.prog E_contains := EnvOk.nil _
def F_contains (a0 : List ByteArray) (a1 : ByteArray) (R : T → Prop) : Prop :=
  loopK (Int × PUnit)
  (fun (X0 : Int × PUnit → Prop) (s1 : Int × PUnit) =>
    iteP (decide (s1.fst < (↑(List.map Sy.str.enc a0).length : Int)))
      (rowsK Sy.str (List.map Sy.str.enc a0) s1.fst fun (y2 : ByteArray) =>
        iteP (decide (a1 = y2)) (R (T.v (Value.bool (decide (0 ≤ s1.fst)))))
          (X0 (IntKind.i64.wrap (s1.fst + 1), ())))
      (R (T.v (Value.bool false))))
  (0, ())
theorem F_contains_eq (a0 : List ByteArray) (a1 : ByteArray) (R : T → Prop) : sxTop stdC2 Tryd.prog E_contains H_contains 8 32 [encV false Sy.str.li a0, encV false Sy.str a1] R = F_contains a0 a1 R := by kernel_rfl
abbrev s_contains : Sh := [(false, Sy.str.li), (false, Sy.str)]
abbrev r_contains : Sh := [(false, Sy.bool)]
theorem r_contains_call (y : Sh.den r_contains) (K : Sh.den r_contains → Prop) : callK r_contains (some (Sh.enc r_contains y)) K = K y := callK_enc rfl y K

noncomputable def g_contains : List T → Option (T) := gS s_contains sp_contains
theorem g_contains_at {a0} {a1} : g_contains [T.sl false (List.map Sy.str.enc a0), T.v (Value.string a1)] = sp_contains (a0, a1) := gS_enc (s := s_contains) rfl (a0, a1) rfl
theorem g_contains_op {u0 u1} : g_contains [T.sl false (List.map Sy.str.enc u0), T.v (Value.string u1)] = sp_contains (u0, u1) := gS_enc (s := s_contains) rfl (u0, u1) rfl
theorem of_contains (h : ∀ (a0 : List ByteArray) (a1 : ByteArray) (r : T), sp_contains (a0, a1) = some r → BdSh s_contains (a0, a1) → F_contains a0 a1 (fun y => y = r)) : PureFn Tryd.prog 32 g_contains :=
  pureFn_S (E := E_contains) (Hs := H_contains) Eok_contains mixed' plain' (noHeap_of rfl) 8 ⟨_, _, Tryd.func32, rfl⟩ rfl fun x r h1 h2 => by
    obtain ⟨a0, a1⟩ := x
    rw [show Sh.encs s_contains (a0, a1) = [encV false Sy.str.li a0, encV false Sy.str a1] from rfl, F_contains_eq]
    exact h a0 a1 r h1 h2

theorem any_drop {α : Type} {p : α → Bool} {l : List α} {k : Nat} (h : k < l.length) : (l.drop k).any p = (p l[k] || (l.drop (k + 1)).any p) := by rw [List.drop_eq_getElem_cons h, List.any_cons]
theorem fn_contains : PureFn Tryd.prog 32 g_contains := of_contains fun l x r h hb => by
  have h' : some (Sh.enc r_b (hasS l x)) = some r := h
  cases h'
  clear h
  have hl : l.length ≤ 2 ^ 47 := hb.1.1
  unfold F_contains
  refine loopK_ix l.length (fun k s => s = ((k : Int), ()) ∧ hasS l x = (l.drop k).any fun y => decide (y = x)) ⟨rfl, rfl⟩ ?_
  rintro X k s hk ⟨rfl, he⟩ hX
  dsimp only
  by_cases hlt : k < l.length
  · rw [any_drop hlt] at he
    refine iteP_yes (by simp [hlt]) ?_
    rw [rowsK_at (r := .str) hlt]
    by_cases h1 : l[k] = x
    · refine iteP_yes h1.symm ?_
      rw [he, decide_eq_true h1]
      simp [Sh.enc, encV, Sy.enc, hdT]
    · refine iteP_no (fun e => h1 e.symm) ?_
      rw [decide_eq_false h1, Bool.false_or] at he
      exact hX _ hlt ⟨by rw [show IntKind.i64.wrap ((k : Int) + 1) = ((k + 1 : Nat) : Int) from wrap_id _ (by omega) (by omega)], he⟩
  · have : k = l.length := by omega
    subst this
    refine iteP_no (by simp) ?_
    rw [he]
    simp [Sh.enc, encV, Sy.enc, hdT]
set_option maxRecDepth 100000
noncomputable def E_same : Env := Env.of []
def H_same : FuncId → Hint := fun f => match f == 13 with | true => ⟨fun r => match r == 4 with | true => .inv [.val 5 false (.int .i64)] | false => .none, fun _ _ => none, fun _ => none⟩ | false => noHint
theorem Eok_same : EnvOk Tryd.prog E_same := EnvOk.nil _
def F_same (a0 : List ByteArray) (a1 : List ByteArray) (R : T → Prop) : Prop :=
  iteP (!decide ((↑(List.map Sy.str.enc a0).length : Int) = (↑(List.map Sy.str.enc a1).length : Int)))
  (R (T.v (Value.bool false)))
  (loopK (Int × PUnit)
    (fun (X0 : Int × PUnit → Prop) (s1 : Int × PUnit) =>
      iteP (decide (s1.fst < (↑(List.map Sy.str.enc a0).length : Int)))
        (rowsK Sy.str (List.map Sy.str.enc a0) s1.fst fun (y2 : ByteArray) =>
          rowsK Sy.str (List.map Sy.str.enc a1) s1.fst fun (y3 : ByteArray) =>
            iteP (!decide (y2 = y3)) (R (T.v (Value.bool false)))
              (X0 (IntKind.i64.wrap (s1.fst + 1), ())))
        (R (T.v (Value.bool true))))
    (0, ()))
theorem F_same_eq (a0 : List ByteArray) (a1 : List ByteArray) (R : T → Prop) : sxTop stdC2 Tryd.prog E_same H_same 8 13 [encV false Sy.str.li a0, encV false Sy.str.li a1] R = F_same a0 a1 R := by kernel_rfl
abbrev s_same : Sh := [(false, Sy.str.li), (false, Sy.str.li)]
abbrev r_same : Sh := [(false, Sy.bool)]
theorem r_same_call (y : Sh.den r_same) (K : Sh.den r_same → Prop) : callK r_same (some (Sh.enc r_same y)) K = K y := callK_enc rfl y K

noncomputable def g_same : List T → Option (T) := gS s_same sp_same
theorem g_same_at {a0} {a1} : g_same [T.sl false (List.map Sy.str.enc a0), T.sl false (List.map Sy.str.enc a1)] = sp_same (a0, a1) := gS_enc (s := s_same) rfl (a0, a1) rfl
theorem g_same_op {u0 u1} : g_same [T.sl false (List.map Sy.str.enc u0), T.sl false (List.map Sy.str.enc u1)] = sp_same (u0, u1) := gS_enc (s := s_same) rfl (u0, u1) rfl
theorem of_same (h : ∀ (a0 : List ByteArray) (a1 : List ByteArray) (r : T), sp_same (a0, a1) = some r → BdSh s_same (a0, a1) → F_same a0 a1 (fun y => y = r)) : PureFn Tryd.prog 13 g_same :=
  pureFn_S (E := E_same) (Hs := H_same) Eok_same mixed' plain' (noHeap_of rfl) 8 ⟨_, _, Tryd.func13, rfl⟩ rfl fun x r h1 h2 => by
    obtain ⟨a0, a1⟩ := x
    rw [show Sh.encs s_same (a0, a1) = [encV false Sy.str.li a0, encV false Sy.str.li a1] from rfl, F_same_eq]
    exact h a0 a1 r h1 h2

theorem fn_same : PureFn Tryd.prog 13 g_same := of_same fun a b r h hb => by
  have h' : some (Sh.enc r_b (decide (a = b))) = some r := h
  cases h'
  clear h
  have hl : a.length ≤ 2 ^ 47 := hb.1.1
  unfold F_same
  by_cases hlen : a.length = b.length
  · rw [show (!decide ((↑(List.map Sy.str.enc a).length : Int) = (↑(List.map Sy.str.enc b).length : Int))) = false by simp [hlen], iteP_f]
    refine loopK_ix a.length (fun k s => s = ((k : Int), ()) ∧ (a = b ↔ a.drop k = b.drop k)) ⟨rfl, by simp⟩ ?_
    rintro X k s hk ⟨rfl, he⟩ hX
    dsimp only
    by_cases hlt : k < a.length
    · have hlt2 : k < b.length := by omega
      refine iteP_yes (by simp [hlt]) ?_
      rw [rowsK_at (r := .str) hlt, rowsK_at (r := .str) hlt2]
      rw [List.drop_eq_getElem_cons hlt, List.drop_eq_getElem_cons hlt2, List.cons.injEq] at he
      by_cases h1 : a[k] = b[k]
      · rw [show (!decide (a[k] = b[k])) = false by simp [h1], iteP_f]
        refine hX _ hlt ⟨by rw [show IntKind.i64.wrap ((k : Int) + 1) = ((k + 1 : Nat) : Int) from wrap_id _ (by omega) (by omega)], ?_⟩
        rw [he]; exact ⟨fun h => h.2, fun h => ⟨h1, h⟩⟩
      · rw [show (!decide (a[k] = b[k])) = true by simp [h1], iteP_t]
        have : ¬ a = b := fun h => h1 (he.1 h).1
        simp [this, Sh.enc, encV, Sy.enc, hdT]
    · have : k = a.length := by omega
      subst this
      refine iteP_no (by simp) ?_
      have : a = b := he.2 (by rw [List.drop_length, hlen, List.drop_length])
      simp [this, Sh.enc, encV, Sy.enc, hdT]
  · rw [show (!decide ((↑(List.map Sy.str.enc a).length : Int) = (↑(List.map Sy.str.enc b).length : Int))) = true by simp; omega, iteP_t]
    have : ¬ a = b := fun h => hlen (by rw [h])
    simp [this, Sh.enc, encV, Sy.enc, hdT]
/-- What the reference has found after k seams. -/
def pk (l : List TSeam) (c : TSeam → Bool) (k : Nat) : List ByteArray := ((l.take k).filter c).map fun s => s.1
theorem pk_yes {l : List TSeam} {c : TSeam → Bool} {k : Nat} (hk : k < l.length) (hc : c l[k] = true) : pk l c (k + 1) = pk l c k ++ [l[k].1] := by
  unfold pk; rw [List.take_succ_eq_append_getElem hk, List.filter_append]; simp [hc]
theorem pk_no {l : List TSeam} {c : TSeam → Bool} {k : Nat} (hk : k < l.length) (hc : c l[k] = false) : pk l c (k + 1) = pk l c k := by
  unfold pk; rw [List.take_succ_eq_append_getElem hk, List.filter_append]; simp [hc]
theorem pk_len {l : List TSeam} {c : TSeam → Bool} {k : Nat} : (pk l c k).length ≤ k := by
  unfold pk; have := List.length_filter_le c (l.take k); simp at this ⊢; omega
theorem pk_end {d : TDesign} {c : TSeam → Bool} : pk d.2.2.2.1 c d.2.2.2.1.length = picks d c := by unfold pk picks; rw [List.take_length]
/-- One more, or none. -/
theorem pk_add {l : List TSeam} {c : TSeam → Bool} {k : Nat} {X : List ByteArray × Int × PUnit → Prop} (hk : k < l.length) (h100 : l.length ≤ 100) (hc : c l[k] = true) (hX : X (pk l c (k + 1), ((k + 1 : Nat) : Int), ())) :
    rowsK ySeam (List.map ySeam.enc l) (k : Int) fun (y3 : TSeam) =>
            reqK
              (decide (((List.map Sy.str.enc (pk l c k)).length + 1) * 16 ≤ 140737488355328) &&
                decide ((List.map Sy.str.enc (pk l c k)).length + 1 ≤ 140737488355328))
              (decK Sy.str (List.map Sy.str.enc (pk l c k) ++ [[T.v (Value.string y3.fst)]])
                fun (y4 : List ByteArray) => X (y4, IntKind.i64.wrap ((k : Int) + 1), ())) := by
  have := pk_len (l := l) (c := c) (k := k)
  rw [rowsK_at (r := ySeam) hk, app_ok (by omega), dec_snoc, ← pk_yes hk hc, show IntKind.i64.wrap ((k : Int) + 1) = ((k + 1 : Nat) : Int) from wrap_id _ (by omega) (by omega)]
  exact hX
theorem pk_none {l : List TSeam} {c : TSeam → Bool} {k : Nat} {X : List ByteArray × Int × PUnit → Prop} (hk : k < l.length) (h100 : l.length ≤ 100) (hc : c l[k] = false) (hX : X (pk l c (k + 1), ((k + 1 : Nat) : Int), ())) :
    decK Sy.str (List.map Sy.str.enc (pk l c k)) fun (y8 : List ByteArray) => X (y8, IntKind.i64.wrap ((k : Int) + 1), ()) := by
  rw [decK_map (r := .str) rfl, ← pk_no hk hc, show IntKind.i64.wrap ((k : Int) + 1) = ((k + 1 : Nat) : Int) from wrap_id _ (by omega) (by omega)]
  exact hX
set_option maxRecDepth 100000
noncomputable def E_touches18 : Env := Env.of []
def H_touches18 : FuncId → Hint := fun f => match f == 19 with | true => ⟨fun r => match r == 3 with | true => .inv [.own 5 1 .str, .val 6 false (.int .i64)] | false => .none, fun _ _ => none, fun _ => none⟩ | false => noHint
theorem Eok_touches18 : EnvOk Tryd.prog E_touches18 := EnvOk.nil _
def F_touches18 (a0 : TDesign) (a1 : ByteArray) (R : T → Prop) : Prop :=
  loopK (List ByteArray × Int × PUnit)
  (fun (X0 : List ByteArray × Int × PUnit → Prop) (s1 : List ByteArray × Int × PUnit) =>
    iteP (decide (s1.snd.fst < (↑(List.map ySeam.enc a0.snd.snd.snd.fst).length : Int)))
      (rowsK ySeam (List.map ySeam.enc a0.snd.snd.snd.fst) s1.snd.fst fun (y2 : TSeam) =>
        iteP (decide (y2.snd.fst = a1))
          (rowsK ySeam (List.map ySeam.enc a0.snd.snd.snd.fst) s1.snd.fst fun (y3 : TSeam) =>
            reqK
              (decide (((List.map Sy.str.enc s1.fst).length + 1) * 16 ≤ 140737488355328) &&
                decide ((List.map Sy.str.enc s1.fst).length + 1 ≤ 140737488355328))
              (decK Sy.str (List.map Sy.str.enc s1.fst ++ [[T.v (Value.string y3.fst)]])
                fun (y4 : List ByteArray) => X0 (y4, IntKind.i64.wrap (s1.snd.fst + 1), ())))
          (rowsK ySeam (List.map ySeam.enc a0.snd.snd.snd.fst) s1.snd.fst fun (y5 : TSeam) =>
            iteP (decide (y5.snd.snd.fst = a1))
              (rowsK ySeam (List.map ySeam.enc a0.snd.snd.snd.fst) s1.snd.fst
                fun (y6 : TSeam) =>
                reqK
                  (decide (((List.map Sy.str.enc s1.fst).length + 1) * 16 ≤ 140737488355328) &&
                    decide ((List.map Sy.str.enc s1.fst).length + 1 ≤ 140737488355328))
                  (decK Sy.str (List.map Sy.str.enc s1.fst ++ [[T.v (Value.string y6.fst)]])
                    fun (y7 : List ByteArray) => X0 (y7, IntKind.i64.wrap (s1.snd.fst + 1), ())))
              (decK Sy.str (List.map Sy.str.enc s1.fst) fun (y8 : List ByteArray) =>
                X0 (y8, IntKind.i64.wrap (s1.snd.fst + 1), ()))))
      (R (T.sl false (List.map Sy.str.enc s1.fst))))
  ([], 0, ())
theorem F_touches18_eq (a0 : TDesign) (a1 : ByteArray) (R : T → Prop) : sxTop stdC2 Tryd.prog E_touches18 H_touches18 8 19 [encV true yDesign a0, encV false Sy.str a1] R = F_touches18 a0 a1 R := by kernel_rfl
abbrev s_touches18 : Sh := [(true, yDesign), (false, Sy.str)]
abbrev r_touches18 : Sh := [(false, Sy.str.li)]
theorem r_touches18_call (y : Sh.den r_touches18) (K : Sh.den r_touches18 → Prop) : callK r_touches18 (some (Sh.enc r_touches18 y)) K = K y := callK_enc rfl y K

noncomputable def g_touches18 : List T → Option (T) := gS s_touches18 sp_touches18
theorem g_touches18_at {a0} {a1} : g_touches18 [encV true yDesign a0, T.v (Value.string a1)] = sp_touches18 (a0, a1) := gS_enc (s := s_touches18) rfl (a0, a1) rfl
theorem g_touches18_op {u0 u1 u2 u3 u4 u5 u6} : g_touches18 [T.agg
    [T.v (Value.string u0), T.sl false (List.map yNode.enc u1),
      T.sl false (List.map yPart.enc u2),
      T.sl false (List.map ySeam.enc u3),
      T.sl false (List.map yPackage.enc u4),
      T.sl false (List.map yNeed.enc u5)],
  T.v (Value.string u6)] = sp_touches18 ((u0, (u1, (u2, (u3, (u4, u5))))), u6) := gS_enc (s := s_touches18) rfl ((u0, (u1, (u2, (u3, (u4, u5))))), u6) rfl
theorem of_touches18 (h : ∀ (a0 : TDesign) (a1 : ByteArray) (r : T), sp_touches18 (a0, a1) = some r → BdSh s_touches18 (a0, a1) → F_touches18 a0 a1 (fun y => y = r)) : PureFn Tryd.prog 19 g_touches18 :=
  pureFn_S (E := E_touches18) (Hs := H_touches18) Eok_touches18 mixed' plain' (noHeap_of rfl) 8 ⟨_, _, Tryd.func19, rfl⟩ rfl fun x r h1 h2 => by
    obtain ⟨a0, a1⟩ := x
    rw [show Sh.encs s_touches18 (a0, a1) = [encV true yDesign a0, encV false Sy.str a1] from rfl, F_touches18_eq]
    exact h a0 a1 r h1 h2

theorem fn_touches18 : PureFn Tryd.prog 19 g_touches18 := of_touches18 fun d id r h hb => by
  have h' : onlyL d (Sh.enc r_ls (picks d (touchC id))) = some r := h
  obtain ⟨hok, _, hl, rfl⟩ := onlyL_of h'
  clear h h'
  unfold F_touches18
  refine loopK_ix d.2.2.2.1.length (fun k s => s = (pk d.2.2.2.1 (touchC id) k, (k : Int), ())) rfl ?_
  rintro X k s hk rfl hX
  dsimp only
  by_cases hlt : k < d.2.2.2.1.length
  · refine iteP_yes (by simp [hlt]) ?_
    rw [rowsK_at (r := ySeam) hlt]
    have yes := fun hc => pk_add (X := X) hlt hl hc (hX _ hlt rfl)
    have no := fun hc => pk_none (X := X) hlt hl hc (hX _ hlt rfl)
    by_cases h1 : d.2.2.2.1[k].2.1 = id
    · exact iteP_yes h1 (yes (by simp [touchC, h1]))
    · refine iteP_no h1 ?_
      rw [rowsK_at (r := ySeam) hlt]
      by_cases h2 : d.2.2.2.1[k].2.2.1 = id
      · exact iteP_yes h2 (yes (by simp [touchC, h2]))
      · exact iteP_no h2 (no (by simp [touchC, h1, h2]))
  · have : k = d.2.2.2.1.length := by omega
    subst this
    refine iteP_no (by simp) ?_
    rw [pk_end]; rfl
set_option maxRecDepth 100000
noncomputable def E_shop18 : Env := Env.of [(29, .pure g_common18)]
def H_shop18 : FuncId → Hint := fun f => match f == 15 with | true => ⟨fun r => match r == 3 with | true => .inv [.own 5 1 .str, .val 6 false (.int .i64)] | false => match r == 8 with | true => .inv [.val 9 false .bool, .val 10 false (.int .i64)] | false => .none, fun _ _ => none, fun _ => none⟩ | false => noHint
theorem Eok_shop18 : EnvOk Tryd.prog E_shop18 := EnvOk.cons (x := .pure g_common18) fn_common18 (EnvOk.nil _)
def F_shop18 (a0 : TDesign) (a1 : ByteArray) (R : T → Prop) : Prop :=
  loopK (List ByteArray × Int × PUnit)
  (fun (X0 : List ByteArray × Int × PUnit → Prop) (s1 : List ByteArray × Int × PUnit) =>
    iteP (decide (s1.snd.fst < (↑(List.map ySeam.enc a0.snd.snd.snd.fst).length : Int)))
      (rowsK ySeam (List.map ySeam.enc a0.snd.snd.snd.fst) s1.snd.fst fun (y2 : TSeam) =>
        callK [(false, Sy.str.li), (false, Sy.bool)]
          (g_common18 [encV true yDesign a0, encV true ySeam y2])
          fun (y3 : List ByteArray × Bool) =>
          loopK (Bool × Int × PUnit)
            (fun (X4 : Bool × Int × PUnit → Prop) (s5 : Bool × Int × PUnit) =>
              iteP (decide (s5.snd.fst < (↑(List.map Sy.str.enc y3.fst).length : Int)))
                (iteP s5.fst (X4 (true, IntKind.i64.wrap (s5.snd.fst + 1), ()))
                  (rowsK Sy.str (List.map Sy.str.enc y3.fst) s5.snd.fst fun (y6 : ByteArray) =>
                    X4 (decide (y6 = a1), IntKind.i64.wrap (s5.snd.fst + 1), ())))
                (iteP s5.fst
                  (rowsK ySeam (List.map ySeam.enc a0.snd.snd.snd.fst) s1.snd.fst
                    fun (y7 : TSeam) =>
                    reqK
                      (decide (((List.map Sy.str.enc s1.fst).length + 1) * 16 ≤ 140737488355328) &&
                        decide ((List.map Sy.str.enc s1.fst).length + 1 ≤ 140737488355328))
                      (decK Sy.str
                        (List.map Sy.str.enc s1.fst ++ [[T.v (Value.string y7.fst)]])
                        fun (y8 : List ByteArray) => X0 (y8, IntKind.i64.wrap (s1.snd.fst + 1), ())))
                  (decK Sy.str (List.map Sy.str.enc s1.fst) fun (y9 : List ByteArray) =>
                    X0 (y9, IntKind.i64.wrap (s1.snd.fst + 1), ()))))
            (false, 0, ()))
      (R (T.sl false (List.map Sy.str.enc s1.fst))))
  ([], 0, ())
theorem F_shop18_eq (a0 : TDesign) (a1 : ByteArray) (R : T → Prop) : sxTop stdC2 Tryd.prog E_shop18 H_shop18 8 15 [encV true yDesign a0, encV false Sy.str a1] R = F_shop18 a0 a1 R := by kernel_rfl
abbrev s_shop18 : Sh := [(true, yDesign), (false, Sy.str)]
abbrev r_shop18 : Sh := [(false, Sy.str.li)]
theorem r_shop18_call (y : Sh.den r_shop18) (K : Sh.den r_shop18 → Prop) : callK r_shop18 (some (Sh.enc r_shop18 y)) K = K y := callK_enc rfl y K

noncomputable def g_shop18 : List T → Option (T) := gS s_shop18 sp_shop18
theorem g_shop18_at {a0} {a1} : g_shop18 [encV true yDesign a0, T.v (Value.string a1)] = sp_shop18 (a0, a1) := gS_enc (s := s_shop18) rfl (a0, a1) rfl
theorem g_shop18_op {u0 u1 u2 u3 u4 u5 u6} : g_shop18 [T.agg
    [T.v (Value.string u0), T.sl false (List.map yNode.enc u1),
      T.sl false (List.map yPart.enc u2),
      T.sl false (List.map ySeam.enc u3),
      T.sl false (List.map yPackage.enc u4),
      T.sl false (List.map yNeed.enc u5)],
  T.v (Value.string u6)] = sp_shop18 ((u0, (u1, (u2, (u3, (u4, u5))))), u6) := gS_enc (s := s_shop18) rfl ((u0, (u1, (u2, (u3, (u4, u5))))), u6) rfl
theorem of_shop18 (h : ∀ (a0 : TDesign) (a1 : ByteArray) (r : T), sp_shop18 (a0, a1) = some r → BdSh s_shop18 (a0, a1) → F_shop18 a0 a1 (fun y => y = r)) : PureFn Tryd.prog 15 g_shop18 :=
  pureFn_S (E := E_shop18) (Hs := H_shop18) Eok_shop18 mixed' plain' (noHeap_of rfl) 8 ⟨_, _, Tryd.func15, rfl⟩ rfl fun x r h1 h2 => by
    obtain ⟨a0, a1⟩ := x
    rw [show Sh.encs s_shop18 (a0, a1) = [encV true yDesign a0, encV false Sy.str a1] from rfl, F_shop18_eq]
    exact h a0 a1 r h1 h2

theorem fn_shop18 : PureFn Tryd.prog 15 g_shop18 := of_shop18 fun d id r h hb => by
  have h' : onlyL d (Sh.enc r_ls (picks d (shopC d id))) = some r := h
  obtain ⟨hok, _, hl, rfl⟩ := onlyL_of h'
  clear h h'
  unfold F_shop18
  refine loopK_ix d.2.2.2.1.length (fun k s => s = (pk d.2.2.2.1 (shopC d id) k, (k : Int), ())) rfl ?_
  rintro X k s hk rfl hX
  dsimp only
  by_cases hlt : k < d.2.2.2.1.length
  · refine iteP_yes (by simp [hlt]) ?_
    rw [rowsK_at (r := ySeam) hlt]
    have yes := fun hc => pk_add (X := X) hlt hl hc (hX _ hlt rfl)
    have no := fun hc => pk_none (X := X) hlt hl hc (hX _ hlt rfl)
    refine callK_some (s := r_lsb) (y := (way d d.2.2.2.1[k], placed d d.2.2.2.1[k])) (by rw [g_common18_at, sp_common18, onlyD_ok _ hok]) ?_
    have hw := way_len d d.2.2.2.1[k]
    dsimp only
    refine loopK_ix (way d d.2.2.2.1[k]).length (fun j s => s = (hasS ((way d d.2.2.2.1[k]).take j) id, (j : Int), ())) (by simp [hasS]) ?_
    rintro Y j s hj rfl hY
    dsimp only
    by_cases hlj : j < (way d d.2.2.2.1[k]).length
    · refine iteP_yes (by simp [hlj]) ?_
      have hs : hasS ((way d d.2.2.2.1[k]).take (j + 1)) id = (hasS ((way d d.2.2.2.1[k]).take j) id || decide ((way d d.2.2.2.1[k])[j] = id)) := by
        unfold hasS; rw [List.take_succ_eq_append_getElem hlj, List.any_append]; simp
      have hj1 : IntKind.i64.wrap ((j : Int) + 1) = ((j + 1 : Nat) : Int) := wrap_id _ (by omega) (by omega)
      cases hf : hasS ((way d d.2.2.2.1[k]).take j) id with
      | true =>
        rw [iteP_t]
        exact hY _ hlj (by rw [hs, hf, hj1]; rfl)
      | false =>
        rw [iteP_f, rowsK_at (r := .str) hlj]
        exact hY _ hlj (by rw [hs, hf, hj1]; rfl)
    · have : j = (way d d.2.2.2.1[k]).length := by omega
      subst this
      refine iteP_no (by simp) ?_
      rw [List.take_length]
      cases hf : hasS (way d d.2.2.2.1[k]) id with
      | true => rw [iteP_t]; exact yes hf
      | false => rw [iteP_f]; exact no hf
  · have : k = d.2.2.2.1.length := by omega
    subst this
    refine iteP_no (by simp) ?_
    rw [pk_end]; rfl
set_option maxRecDepth 100000
noncomputable def E_erection18 : Env := Env.of [(29, .pure g_common18), (34, .pure g_path18)]
def H_erection18 : FuncId → Hint := fun f => match f == 17 with | true => ⟨fun r => match r == 3 with | true => .inv [.own 5 1 .str, .val 6 false (.int .i64)] | false => .none, fun _ _ => none, fun _ => none⟩ | false => noHint
theorem Eok_erection18 : EnvOk Tryd.prog E_erection18 := EnvOk.cons (x := .pure g_common18) fn_common18 (EnvOk.cons (x := .pure g_path18) fn_path18 (EnvOk.nil _))
def F_erection18 (a0 : TDesign) (a1 : ByteArray) (R : T → Prop) : Prop :=
  loopK (List ByteArray × Int × PUnit)
  (fun (X0 : List ByteArray × Int × PUnit → Prop) (s1 : List ByteArray × Int × PUnit) =>
    iteP (decide (s1.snd.fst < (↑(List.map ySeam.enc a0.snd.snd.snd.fst).length : Int)))
      (rowsK ySeam (List.map ySeam.enc a0.snd.snd.snd.fst) s1.snd.fst fun (y2 : TSeam) =>
        callK [(false, Sy.str.li), (false, Sy.bool)]
          (g_common18 [encV true yDesign a0, encV true ySeam y2])
          fun (y3 : List ByteArray × Bool) =>
          iteP (!y3.snd)
            (decK Sy.str (List.map Sy.str.enc s1.fst) fun (y4 : List ByteArray) =>
              X0 (y4, IntKind.i64.wrap (s1.snd.fst + 1), ()))
            (iteP (decide (0 < (↑(List.map Sy.str.enc y3.fst).length : Int)))
              (decK Sy.str (List.map Sy.str.enc s1.fst) fun (y5 : List ByteArray) =>
                X0 (y5, IntKind.i64.wrap (s1.snd.fst + 1), ()))
              (rowsK ySeam (List.map ySeam.enc a0.snd.snd.snd.fst) s1.snd.fst
                fun (y6 : TSeam) =>
                callK [(false, Sy.str.li)]
                  (g_path18 [encV true yDesign a0, T.v (Value.string y6.snd.fst)])
                  fun (y7 : List ByteArray) =>
                  rowsK Sy.str (List.map Sy.str.enc y7) 0 fun (y8 : ByteArray) =>
                    iteP (decide (y8 = a1))
                      (rowsK ySeam (List.map ySeam.enc a0.snd.snd.snd.fst) s1.snd.fst
                        fun (y9 : TSeam) =>
                        reqK
                          (decide (((List.map Sy.str.enc s1.fst).length + 1) * 16 ≤ 140737488355328) &&
                            decide ((List.map Sy.str.enc s1.fst).length + 1 ≤ 140737488355328))
                          (decK Sy.str
                            (List.map Sy.str.enc s1.fst ++ [[T.v (Value.string y9.fst)]])
                            fun (y10 : List ByteArray) => X0 (y10, IntKind.i64.wrap (s1.snd.fst + 1), ())))
                      (rowsK ySeam (List.map ySeam.enc a0.snd.snd.snd.fst) s1.snd.fst
                        fun (y11 : TSeam) =>
                        callK [(false, Sy.str.li)]
                          (g_path18
                            [encV true yDesign a0, T.v (Value.string y11.snd.snd.fst)])
                          fun (y12 : List ByteArray) =>
                          rowsK Sy.str (List.map Sy.str.enc y12) 0 fun (y13 : ByteArray) =>
                            iteP (decide (y13 = a1))
                              (rowsK ySeam (List.map ySeam.enc a0.snd.snd.snd.fst) s1.snd.fst
                                fun (y14 : TSeam) =>
                                reqK
                                  (decide (((List.map Sy.str.enc s1.fst).length + 1) * 16 ≤ 140737488355328) &&
                                    decide ((List.map Sy.str.enc s1.fst).length + 1 ≤ 140737488355328))
                                  (decK Sy.str
                                    (List.map Sy.str.enc s1.fst ++ [[T.v (Value.string y14.fst)]])
                                    fun (y15 : List ByteArray) => X0 (y15, IntKind.i64.wrap (s1.snd.fst + 1), ())))
                              (decK Sy.str (List.map Sy.str.enc s1.fst) fun (y16 : List ByteArray) =>
                                X0 (y16, IntKind.i64.wrap (s1.snd.fst + 1), ()))))))
      (R (T.sl false (List.map Sy.str.enc s1.fst))))
  ([], 0, ())
theorem F_erection18_eq (a0 : TDesign) (a1 : ByteArray) (R : T → Prop) : sxTop stdC2 Tryd.prog E_erection18 H_erection18 8 17 [encV true yDesign a0, encV false Sy.str a1] R = F_erection18 a0 a1 R := by kernel_rfl
abbrev s_erection18 : Sh := [(true, yDesign), (false, Sy.str)]
abbrev r_erection18 : Sh := [(false, Sy.str.li)]
theorem r_erection18_call (y : Sh.den r_erection18) (K : Sh.den r_erection18 → Prop) : callK r_erection18 (some (Sh.enc r_erection18 y)) K = K y := callK_enc rfl y K

noncomputable def g_erection18 : List T → Option (T) := gS s_erection18 sp_erection18
theorem g_erection18_at {a0} {a1} : g_erection18 [encV true yDesign a0, T.v (Value.string a1)] = sp_erection18 (a0, a1) := gS_enc (s := s_erection18) rfl (a0, a1) rfl
theorem g_erection18_op {u0 u1 u2 u3 u4 u5 u6} : g_erection18 [T.agg
    [T.v (Value.string u0), T.sl false (List.map yNode.enc u1),
      T.sl false (List.map yPart.enc u2),
      T.sl false (List.map ySeam.enc u3),
      T.sl false (List.map yPackage.enc u4),
      T.sl false (List.map yNeed.enc u5)],
  T.v (Value.string u6)] = sp_erection18 ((u0, (u1, (u2, (u3, (u4, u5))))), u6) := gS_enc (s := s_erection18) rfl ((u0, (u1, (u2, (u3, (u4, u5))))), u6) rfl
theorem of_erection18 (h : ∀ (a0 : TDesign) (a1 : ByteArray) (r : T), sp_erection18 (a0, a1) = some r → BdSh s_erection18 (a0, a1) → F_erection18 a0 a1 (fun y => y = r)) : PureFn Tryd.prog 17 g_erection18 :=
  pureFn_S (E := E_erection18) (Hs := H_erection18) Eok_erection18 mixed' plain' (noHeap_of rfl) 8 ⟨_, _, Tryd.func17, rfl⟩ rfl fun x r h1 h2 => by
    obtain ⟨a0, a1⟩ := x
    rw [show Sh.encs s_erection18 (a0, a1) = [encV true yDesign a0, encV false Sy.str a1] from rfl, F_erection18_eq]
    exact h a0 a1 r h1 h2

theorem head_at {l : List ByteArray} (h : 0 < l.length) (K : ByteArray → Prop) (hK : K (headOf l)) : rowsK Sy.str (List.map Sy.str.enc l) 0 K := by
  have e : rowsK Sy.str (List.map Sy.str.enc l) ((0 : Nat) : Int) K = K l[0] := rowsK_at (r := .str) h K
  have e2 : headOf l = l[0] := by cases l with
    | nil => simp at h
    | cons a l => rfl
  rw [e2] at hK
  rw [← e] at hK
  exact hK
theorem placed_len {d : TDesign} {s : TSeam} (h : placed d s = true) : 0 < (pathOf d s.2.1).length ∧ 0 < (pathOf d s.2.2.1).length := by
  simpa [placed, placedB] using h
theorem fn_erection18 : PureFn Tryd.prog 17 g_erection18 := of_erection18 fun d id r h hb => by
  have h' : onlyL d (Sh.enc r_ls (picks d (erectC d id))) = some r := h
  obtain ⟨hok, _, hl, rfl⟩ := onlyL_of h'
  clear h h'
  unfold F_erection18
  refine loopK_ix d.2.2.2.1.length (fun k s => s = (pk d.2.2.2.1 (erectC d id) k, (k : Int), ())) rfl ?_
  rintro X k s hk rfl hX
  dsimp only
  by_cases hlt : k < d.2.2.2.1.length
  · refine iteP_yes (by simp [hlt]) ?_
    rw [rowsK_at (r := ySeam) hlt]
    have yes := fun hc => pk_add (X := X) hlt hl hc (hX _ hlt rfl)
    have no := fun hc => pk_none (X := X) hlt hl hc (hX _ hlt rfl)
    refine callK_some (s := r_lsb) (y := (way d d.2.2.2.1[k], placed d d.2.2.2.1[k])) (by rw [g_common18_at, sp_common18, onlyD_ok _ hok]) ?_
    dsimp only
    cases hp : placed d d.2.2.2.1[k] with
    | false =>
      rw [Bool.not_false, iteP_t]
      exact no (by simp [erectC, hp])
    | true =>
      obtain ⟨ha, hb⟩ := placed_len hp
      rw [Bool.not_true, iteP_f]
      by_cases h0 : (way d d.2.2.2.1[k]).length = 0
      · refine iteP_no (by simp [h0]) ?_
        rw [rowsK_at (r := ySeam) hlt]
        refine callK_some (s := r_ls) (y := pathOf d d.2.2.2.1[k].2.1) (by rw [g_path18_at, sp_path18, sp_path, onlyD_ok _ hok]) ?_
        refine head_at ha _ ?_
        by_cases h1 : headOf (pathOf d d.2.2.2.1[k].2.1) = id
        · exact iteP_yes h1 (yes (by simp [erectC, hp, h0, h1]))
        · refine iteP_no h1 ?_
          rw [rowsK_at (r := ySeam) hlt]
          refine callK_some (s := r_ls) (y := pathOf d d.2.2.2.1[k].2.2.1) (by rw [g_path18_at, sp_path18, sp_path, onlyD_ok _ hok]) ?_
          refine head_at hb _ ?_
          by_cases h2 : headOf (pathOf d d.2.2.2.1[k].2.2.1) = id
          · exact iteP_yes h2 (yes (by simp [erectC, hp, h0, h2]))
          · exact iteP_no h2 (no (by simp [erectC, hp, h0, h1, h2]))
      · exact iteP_yes (by simp; omega) (no (by simp [erectC, h0]))
  · have : k = d.2.2.2.1.length := by omega
    subst this
    refine iteP_no (by simp) ?_
    rw [pk_end]; rfl
set_option maxRecDepth 100000
noncomputable def E_shop : Env := Env.of [(45, .perm 1 g_sortI), (26, .pure g_ways), (27, .pure g_common), (32, .pure g_contains)]
def H_shop : FuncId → Hint := fun f => match f == 30 with | true => ⟨fun r => match r == 3 with | true => .inv [.val 17 false (.int .i64), .map 3 (.int .i64) false .str] | false => match r == 10 with | true => .inv [.own 8 1 (.int .i64), .mit 4 (some 3)] | false => match r == 16 with | true => .inv [.own 10 1 .str, .val 44 false (.int .i64)] | false => .none, fun _ _ => none, fun r => match r == 11 with | true => some ((.int .i64), false, .str) | false => none⟩ | false => noHint
theorem Eok_shop : EnvOk Tryd.prog E_shop := EnvOk.cons (x := .perm 1 g_sortI) fn_sortI (EnvOk.cons (x := .pure g_ways) fn_ways (EnvOk.cons (x := .pure g_common) fn_common (EnvOk.cons (x := .pure g_contains) fn_contains (EnvOk.nil _))))
def F_shop (a0 : TDesign) (a1 : ByteArray) (R : T → Prop) : Prop :=
  decMK (Sy.int IntKind.i64) false Sy.str [] fun (y0 : List (Int × ByteArray)) =>
  loopK (Int × List (Int × ByteArray) × PUnit)
    (fun (X1 : Int × List (Int × ByteArray) × PUnit → Prop) (s2 : Int × List (Int × ByteArray) × PUnit) =>
      iteP (decide (s2.fst < (↑(List.map ySeam.enc a0.snd.snd.snd.fst).length : Int)))
        (rowsK ySeam (List.map ySeam.enc a0.snd.snd.snd.fst) s2.fst fun (y3 : TSeam) =>
          callK [(false, Sy.str.li), (false, Sy.str.li), (false, Sy.bool)]
            (g_ways [encV true yDesign a0, encV true ySeam y3])
            fun (y4 : List ByteArray × List ByteArray × Bool) =>
            iteP y4.snd.snd
              (callK [(false, Sy.str.li)]
                (g_common
                  [T.sl false (List.map Sy.str.enc y4.fst),
                    T.sl false (List.map Sy.str.enc y4.snd.fst)])
                fun (y5 : List ByteArray) =>
                callK [(false, Sy.bool)]
                  (g_contains [T.sl false (List.map Sy.str.enc y5), T.v (Value.string a1)])
                  fun (y6 : Bool) =>
                  iteP y6
                    (optK (Option (Nat × D))
                      (findD (TypeDesc.int IntKind.i64) (Value.int IntKind.i64 s2.fst)
                        (List.map (encE (Sy.int IntKind.i64) false Sy.str) s2.snd.fst) 0)
                      fun (y7 : Option (Nat × D)) =>
                      decMK (Sy.int IntKind.i64) false Sy.str
                        (setEnt
                          (List.map (encE (Sy.int IntKind.i64) false Sy.str) s2.snd.fst) y7
                          (Value.int IntKind.i64 s2.fst) (D.p (T.v (Value.string y3.fst))))
                        fun (y8 : List (Int × ByteArray)) => X1 (IntKind.i64.wrap (s2.fst + 1), y8, ()))
                    (decMK (Sy.int IntKind.i64) false Sy.str
                      (List.map (encE (Sy.int IntKind.i64) false Sy.str) s2.snd.fst)
                      fun (y9 : List (Int × ByteArray)) => X1 (IntKind.i64.wrap (s2.fst + 1), y9, ())))
              (decMK (Sy.int IntKind.i64) false Sy.str
                (List.map (encE (Sy.int IntKind.i64) false Sy.str) s2.snd.fst)
                fun (y10 : List (Int × ByteArray)) => X1 (IntKind.i64.wrap (s2.fst + 1), y10, ())))
        (loopK (List Int × (Nat × List Nat × Nat) × PUnit)
          (fun (X11 : List Int × (Nat × List Nat × Nat) × PUnit → Prop)
              (s12 : List Int × (Nat × List Nat × Nat) × PUnit) =>
            reqK
              (decide
                  ((List.map (encE (Sy.int IntKind.i64) false Sy.str) s2.snd.fst).length ≤
                    s12.snd.fst.fst) &&
                decide (s12.snd.fst.fst ≤ s12.snd.fst.snd.snd))
              (eachK (List.map (encE (Sy.int IntKind.i64) false Sy.str) s2.snd.fst).length
                s12.snd.fst.snd.fst
                (optK (List (List T))
                  (match decI (List.map (Sy.int IntKind.i64).enc s12.fst) with
                  | some x =>
                    some (List.map (fun (a : Int) => [T.v (Value.int IntKind.i64 a)]) (sortL x))
                  | none => none)
                  fun (y13 : List (List T)) =>
                  loopK (List ByteArray × Int × PUnit)
                    (fun (X14 : List ByteArray × Int × PUnit → Prop) (s15 : List ByteArray × Int × PUnit) =>
                      iteP (decide (s15.snd.fst < (↑y13.length : Int)))
                        (rowsK (Sy.int IntKind.i64) y13 s15.snd.fst fun (y16 : Int) =>
                          partK (Sy.int IntKind.i64) y13 (Int.toNat s15.snd.fst) 0 fun (y17 : Int) =>
                            findK (TypeDesc.int IntKind.i64) (Value.int IntKind.i64 y17)
                              (List.map (encE (Sy.int IntKind.i64) false Sy.str) s2.snd.fst) false
                              Sy.str
                              (reqK
                                (decide (((List.map Sy.str.enc s15.fst).length + 1) * 16 ≤ 140737488355328) &&
                                  decide ((List.map Sy.str.enc s15.fst).length + 1 ≤ 140737488355328))
                                (decK Sy.str
                                  (List.map Sy.str.enc s15.fst ++ [[T.v (Value.string { data := #[] })]])
                                  fun (y21 : List ByteArray) => X14 (y21, IntKind.i64.wrap (s15.snd.fst + 1), ())))
                              fun (i18 : Nat) (y19 : ByteArray) =>
                              reqK
                                (decide (((List.map Sy.str.enc s15.fst).length + 1) * 16 ≤ 140737488355328) &&
                                  decide ((List.map Sy.str.enc s15.fst).length + 1 ≤ 140737488355328))
                                (decK Sy.str
                                  (List.map Sy.str.enc s15.fst ++ [[T.v (Value.string y19)]])
                                  fun (y20 : List ByteArray) => X14 (y20, IntKind.i64.wrap (s15.snd.fst + 1), ())))
                        (R (T.sl false (List.map Sy.str.enc s15.fst))))
                    ([], 0, ()))
                fun (i22 : Nat) =>
                reqK
                  (decide
                    ((List.map (encE (Sy.int IntKind.i64) false Sy.str) s2.snd.fst).length =
                      (List.map (encE (Sy.int IntKind.i64) false Sy.str) s2.snd.fst).length))
                  (entK (Sy.int IntKind.i64) false Sy.str
                    (List.map (encE (Sy.int IntKind.i64) false Sy.str) s2.snd.fst)
                    (s12.snd.fst.snd.fst ++ [i22]) fun (k23 : Int) (y24 : ByteArray) =>
                    reqK
                      (decide
                          (((List.map (Sy.int IntKind.i64).enc s12.fst).length + 1) * 8 ≤ 140737488355328) &&
                        decide ((List.map (Sy.int IntKind.i64).enc s12.fst).length + 1 ≤ 140737488355328))
                      (decK (Sy.int IntKind.i64)
                        (List.map (Sy.int IntKind.i64).enc s12.fst ++
                          [[T.v (Value.int IntKind.i64 k23)]])
                        fun (y25 : List Int) =>
                        X11
                          (y25,
                            (s12.snd.fst.fst, s12.snd.fst.snd.fst ++ [i22],
                              (List.map (encE (Sy.int IntKind.i64) false Sy.str)
                                  s2.snd.fst).length),
                            ())))))
          ([],
            ((List.map (encE (Sy.int IntKind.i64) false Sy.str) s2.snd.fst).length, [],
              (List.map (encE (Sy.int IntKind.i64) false Sy.str) s2.snd.fst).length),
            ())))
    (0, y0, ())
theorem F_shop_eq (a0 : TDesign) (a1 : ByteArray) (R : T → Prop) : sxTop stdC2 Tryd.prog E_shop H_shop 8 14 [encV true yDesign a0, encV false Sy.str a1] R = F_shop a0 a1 R := by kernel_rfl
abbrev s_shop : Sh := [(true, yDesign), (false, Sy.str)]
abbrev r_shop : Sh := [(false, Sy.str.li)]
theorem r_shop_call (y : Sh.den r_shop) (K : Sh.den r_shop → Prop) : callK r_shop (some (Sh.enc r_shop y)) K = K y := callK_enc rfl y K

noncomputable def g_shop : List T → Option (T) := gS s_shop sp_shop
theorem g_shop_at {a0} {a1} : g_shop [encV true yDesign a0, T.v (Value.string a1)] = sp_shop (a0, a1) := gS_enc (s := s_shop) rfl (a0, a1) rfl
theorem g_shop_op {u0 u1 u2 u3 u4 u5 u6} : g_shop [T.agg
    [T.v (Value.string u0), T.sl false (List.map yNode.enc u1),
      T.sl false (List.map yPart.enc u2),
      T.sl false (List.map ySeam.enc u3),
      T.sl false (List.map yPackage.enc u4),
      T.sl false (List.map yNeed.enc u5)],
  T.v (Value.string u6)] = sp_shop ((u0, (u1, (u2, (u3, (u4, u5))))), u6) := gS_enc (s := s_shop) rfl ((u0, (u1, (u2, (u3, (u4, u5))))), u6) rfl
theorem of_shop (h : ∀ (a0 : TDesign) (a1 : ByteArray) (r : T), sp_shop (a0, a1) = some r → BdSh s_shop (a0, a1) → F_shop a0 a1 (fun y => y = r)) : PureFn Tryd.prog 14 g_shop :=
  pureFn_S (E := E_shop) (Hs := H_shop) Eok_shop mixed' plain' (noHeap_of rfl) 8 ⟨_, _, Tryd.func14, rfl⟩ rfl fun x r h1 h2 => by
    obtain ⟨a0, a1⟩ := x
    rw [show Sh.encs s_shop (a0, a1) = [encV true yDesign a0, encV false Sy.str a1] from rfl, F_shop_eq]
    exact h a0 a1 r h1 h2

theorem fn_shop : PureFn Tryd.prog 14 g_shop := of_shop fun d id r h hb => by
  have h' : onlyL d (Sh.enc r_ls (picks d (shopC d id))) = some r := h
  obtain ⟨hok, _, hl, rfl⟩ := onlyL_of h'
  clear h h'
  unfold F_shop
  refine ⟨[], rfl, ?_⟩
  refine loopK_ix d.2.2.2.1.length (fun k s => ∃ es, s = ((k : Int), es, ()) ∧ Held d.2.2.2.1 (shopC d id) k es) ⟨[], rfl, Held.zero _ _⟩ ?_
  rintro X k s hk ⟨es, rfl, he⟩ hX
  dsimp only
  by_cases hlt : k < d.2.2.2.1.length
  · refine iteP_yes (by simp [hlt]) ?_
    rw [rowsK_at (r := ySeam) hlt]
    have hw : IntKind.i64.wrap ((k : Int) + 1) = ((k + 1 : Nat) : Int) := wrap_id _ (by omega) (by omega)
    have yes := fun (hc : (shopC d id) d.2.2.2.1[k] = true) => held_ins he hlt hc (fun y => X (IntKind.i64.wrap ((k : Int) + 1), y, ())) (hX _ hlt ⟨_, by rw [hw], he.yes hlt hc⟩)
    have no := fun (hc : (shopC d id) d.2.2.2.1[k] = false) => decMK_eI (r := .str) rfl es (fun y => X (IntKind.i64.wrap ((k : Int) + 1), y, ())) (hX _ hlt ⟨_, by rw [hw], he.no hlt hc⟩)
    refine callK_some (s := r_lslsb) (y := (pathOf d d.2.2.2.1[k].2.1, pathOf d d.2.2.2.1[k].2.2.1, placed d d.2.2.2.1[k])) (by rw [g_ways_at, sp_ways, onlyD_ok _ hok]) ?_
    dsimp only
    cases hp : placed d d.2.2.2.1[k] with
    | false =>
      rw [iteP_f]
      exact no (by rw [shopC, show way d d.2.2.2.1[k] = [] from comm_placed hp]; rfl)
    | true =>
      obtain ⟨ha, hb⟩ := placed_len hp
      rw [iteP_t]
      refine callK_some (s := r_ls) (y := way d d.2.2.2.1[k]) g_common_at ?_
      refine callK_some (s := r_b) (y := hasS (way d d.2.2.2.1[k]) id) g_contains_at ?_
      cases hf : hasS (way d d.2.2.2.1[k]) id with
      | true => rw [iteP_t]; exact yes hf
      | false => rw [iteP_f]; exact no hf
  · have : k = d.2.2.2.1.length := by omega
    subst this
    refine iteP_no (by simp) ?_
    refine chosen_tail (by have := he.2.2.2; omega) he.2.1 (R := fun y => y = Sh.enc r_ls (picks d (shopC d id))) ?_
    rw [he.1, List.take_length]; rfl
set_option maxRecDepth 100000
noncomputable def E_erection : Env := Env.of [(45, .perm 1 g_sortI), (26, .pure g_ways), (27, .pure g_common)]
def H_erection : FuncId → Hint := fun f => match f == 30 with | true => ⟨fun r => match r == 3 with | true => .inv [.val 17 false (.int .i64), .map 3 (.int .i64) false .str] | false => match r == 10 with | true => .inv [.own 8 1 (.int .i64), .mit 4 (some 3)] | false => match r == 16 with | true => .inv [.own 10 1 .str, .val 44 false (.int .i64)] | false => .none, fun _ _ => none, fun r => match r == 11 with | true => some ((.int .i64), false, .str) | false => none⟩ | false => noHint
theorem Eok_erection : EnvOk Tryd.prog E_erection := EnvOk.cons (x := .perm 1 g_sortI) fn_sortI (EnvOk.cons (x := .pure g_ways) fn_ways (EnvOk.cons (x := .pure g_common) fn_common (EnvOk.nil _)))
def F_erection (a0 : TDesign) (a1 : ByteArray) (R : T → Prop) : Prop :=
  decMK (Sy.int IntKind.i64) false Sy.str [] fun (y0 : List (Int × ByteArray)) =>
  loopK (Int × List (Int × ByteArray) × PUnit)
    (fun (X1 : Int × List (Int × ByteArray) × PUnit → Prop) (s2 : Int × List (Int × ByteArray) × PUnit) =>
      iteP (decide (s2.fst < (↑(List.map ySeam.enc a0.snd.snd.snd.fst).length : Int)))
        (rowsK ySeam (List.map ySeam.enc a0.snd.snd.snd.fst) s2.fst fun (y3 : TSeam) =>
          callK [(false, Sy.str.li), (false, Sy.str.li), (false, Sy.bool)]
            (g_ways [encV true yDesign a0, encV true ySeam y3])
            fun (y4 : List ByteArray × List ByteArray × Bool) =>
            iteP y4.snd.snd
              (callK [(false, Sy.str.li)]
                (g_common
                  [T.sl false (List.map Sy.str.enc y4.fst),
                    T.sl false (List.map Sy.str.enc y4.snd.fst)])
                fun (y5 : List ByteArray) =>
                iteP (decide ((↑(List.map Sy.str.enc y5).length : Int) = 0))
                  (rowsK Sy.str (List.map Sy.str.enc y4.fst) 0 fun (y6 : ByteArray) =>
                    iteP (decide (y6 = a1))
                      (optK (Option (Nat × D))
                        (findD (TypeDesc.int IntKind.i64) (Value.int IntKind.i64 s2.fst)
                          (List.map (encE (Sy.int IntKind.i64) false Sy.str) s2.snd.fst) 0)
                        fun (y7 : Option (Nat × D)) =>
                        decMK (Sy.int IntKind.i64) false Sy.str
                          (setEnt
                            (List.map (encE (Sy.int IntKind.i64) false Sy.str) s2.snd.fst) y7
                            (Value.int IntKind.i64 s2.fst) (D.p (T.v (Value.string y3.fst))))
                          fun (y8 : List (Int × ByteArray)) => X1 (IntKind.i64.wrap (s2.fst + 1), y8, ()))
                      (rowsK Sy.str (List.map Sy.str.enc y4.snd.fst) 0 fun (y9 : ByteArray) =>
                        iteP (decide (y9 = a1))
                          (optK (Option (Nat × D))
                            (findD (TypeDesc.int IntKind.i64) (Value.int IntKind.i64 s2.fst)
                              (List.map (encE (Sy.int IntKind.i64) false Sy.str) s2.snd.fst) 0)
                            fun (y10 : Option (Nat × D)) =>
                            decMK (Sy.int IntKind.i64) false Sy.str
                              (setEnt
                                (List.map (encE (Sy.int IntKind.i64) false Sy.str) s2.snd.fst) y10
                                (Value.int IntKind.i64 s2.fst) (D.p (T.v (Value.string y3.fst))))
                              fun (y11 : List (Int × ByteArray)) => X1 (IntKind.i64.wrap (s2.fst + 1), y11, ()))
                          (decMK (Sy.int IntKind.i64) false Sy.str
                            (List.map (encE (Sy.int IntKind.i64) false Sy.str) s2.snd.fst)
                            fun (y12 : List (Int × ByteArray)) => X1 (IntKind.i64.wrap (s2.fst + 1), y12, ()))))
                  (decMK (Sy.int IntKind.i64) false Sy.str
                    (List.map (encE (Sy.int IntKind.i64) false Sy.str) s2.snd.fst)
                    fun (y13 : List (Int × ByteArray)) => X1 (IntKind.i64.wrap (s2.fst + 1), y13, ())))
              (decMK (Sy.int IntKind.i64) false Sy.str
                (List.map (encE (Sy.int IntKind.i64) false Sy.str) s2.snd.fst)
                fun (y14 : List (Int × ByteArray)) => X1 (IntKind.i64.wrap (s2.fst + 1), y14, ())))
        (loopK (List Int × (Nat × List Nat × Nat) × PUnit)
          (fun (X15 : List Int × (Nat × List Nat × Nat) × PUnit → Prop)
              (s16 : List Int × (Nat × List Nat × Nat) × PUnit) =>
            reqK
              (decide
                  ((List.map (encE (Sy.int IntKind.i64) false Sy.str) s2.snd.fst).length ≤
                    s16.snd.fst.fst) &&
                decide (s16.snd.fst.fst ≤ s16.snd.fst.snd.snd))
              (eachK (List.map (encE (Sy.int IntKind.i64) false Sy.str) s2.snd.fst).length
                s16.snd.fst.snd.fst
                (optK (List (List T))
                  (match decI (List.map (Sy.int IntKind.i64).enc s16.fst) with
                  | some x =>
                    some (List.map (fun (a : Int) => [T.v (Value.int IntKind.i64 a)]) (sortL x))
                  | none => none)
                  fun (y17 : List (List T)) =>
                  loopK (List ByteArray × Int × PUnit)
                    (fun (X18 : List ByteArray × Int × PUnit → Prop) (s19 : List ByteArray × Int × PUnit) =>
                      iteP (decide (s19.snd.fst < (↑y17.length : Int)))
                        (rowsK (Sy.int IntKind.i64) y17 s19.snd.fst fun (y20 : Int) =>
                          partK (Sy.int IntKind.i64) y17 (Int.toNat s19.snd.fst) 0 fun (y21 : Int) =>
                            findK (TypeDesc.int IntKind.i64) (Value.int IntKind.i64 y21)
                              (List.map (encE (Sy.int IntKind.i64) false Sy.str) s2.snd.fst) false
                              Sy.str
                              (reqK
                                (decide (((List.map Sy.str.enc s19.fst).length + 1) * 16 ≤ 140737488355328) &&
                                  decide ((List.map Sy.str.enc s19.fst).length + 1 ≤ 140737488355328))
                                (decK Sy.str
                                  (List.map Sy.str.enc s19.fst ++ [[T.v (Value.string { data := #[] })]])
                                  fun (y25 : List ByteArray) => X18 (y25, IntKind.i64.wrap (s19.snd.fst + 1), ())))
                              fun (i22 : Nat) (y23 : ByteArray) =>
                              reqK
                                (decide (((List.map Sy.str.enc s19.fst).length + 1) * 16 ≤ 140737488355328) &&
                                  decide ((List.map Sy.str.enc s19.fst).length + 1 ≤ 140737488355328))
                                (decK Sy.str
                                  (List.map Sy.str.enc s19.fst ++ [[T.v (Value.string y23)]])
                                  fun (y24 : List ByteArray) => X18 (y24, IntKind.i64.wrap (s19.snd.fst + 1), ())))
                        (R (T.sl false (List.map Sy.str.enc s19.fst))))
                    ([], 0, ()))
                fun (i26 : Nat) =>
                reqK
                  (decide
                    ((List.map (encE (Sy.int IntKind.i64) false Sy.str) s2.snd.fst).length =
                      (List.map (encE (Sy.int IntKind.i64) false Sy.str) s2.snd.fst).length))
                  (entK (Sy.int IntKind.i64) false Sy.str
                    (List.map (encE (Sy.int IntKind.i64) false Sy.str) s2.snd.fst)
                    (s16.snd.fst.snd.fst ++ [i26]) fun (k27 : Int) (y28 : ByteArray) =>
                    reqK
                      (decide
                          (((List.map (Sy.int IntKind.i64).enc s16.fst).length + 1) * 8 ≤ 140737488355328) &&
                        decide ((List.map (Sy.int IntKind.i64).enc s16.fst).length + 1 ≤ 140737488355328))
                      (decK (Sy.int IntKind.i64)
                        (List.map (Sy.int IntKind.i64).enc s16.fst ++
                          [[T.v (Value.int IntKind.i64 k27)]])
                        fun (y29 : List Int) =>
                        X15
                          (y29,
                            (s16.snd.fst.fst, s16.snd.fst.snd.fst ++ [i26],
                              (List.map (encE (Sy.int IntKind.i64) false Sy.str)
                                  s2.snd.fst).length),
                            ())))))
          ([],
            ((List.map (encE (Sy.int IntKind.i64) false Sy.str) s2.snd.fst).length, [],
              (List.map (encE (Sy.int IntKind.i64) false Sy.str) s2.snd.fst).length),
            ())))
    (0, y0, ())
theorem F_erection_eq (a0 : TDesign) (a1 : ByteArray) (R : T → Prop) : sxTop stdC2 Tryd.prog E_erection H_erection 8 16 [encV true yDesign a0, encV false Sy.str a1] R = F_erection a0 a1 R := by kernel_rfl
abbrev s_erection : Sh := [(true, yDesign), (false, Sy.str)]
abbrev r_erection : Sh := [(false, Sy.str.li)]
theorem r_erection_call (y : Sh.den r_erection) (K : Sh.den r_erection → Prop) : callK r_erection (some (Sh.enc r_erection y)) K = K y := callK_enc rfl y K

noncomputable def g_erection : List T → Option (T) := gS s_erection sp_erection
theorem g_erection_at {a0} {a1} : g_erection [encV true yDesign a0, T.v (Value.string a1)] = sp_erection (a0, a1) := gS_enc (s := s_erection) rfl (a0, a1) rfl
theorem g_erection_op {u0 u1 u2 u3 u4 u5 u6} : g_erection [T.agg
    [T.v (Value.string u0), T.sl false (List.map yNode.enc u1),
      T.sl false (List.map yPart.enc u2),
      T.sl false (List.map ySeam.enc u3),
      T.sl false (List.map yPackage.enc u4),
      T.sl false (List.map yNeed.enc u5)],
  T.v (Value.string u6)] = sp_erection ((u0, (u1, (u2, (u3, (u4, u5))))), u6) := gS_enc (s := s_erection) rfl ((u0, (u1, (u2, (u3, (u4, u5))))), u6) rfl
theorem of_erection (h : ∀ (a0 : TDesign) (a1 : ByteArray) (r : T), sp_erection (a0, a1) = some r → BdSh s_erection (a0, a1) → F_erection a0 a1 (fun y => y = r)) : PureFn Tryd.prog 16 g_erection :=
  pureFn_S (E := E_erection) (Hs := H_erection) Eok_erection mixed' plain' (noHeap_of rfl) 8 ⟨_, _, Tryd.func16, rfl⟩ rfl fun x r h1 h2 => by
    obtain ⟨a0, a1⟩ := x
    rw [show Sh.encs s_erection (a0, a1) = [encV true yDesign a0, encV false Sy.str a1] from rfl, F_erection_eq]
    exact h a0 a1 r h1 h2

theorem fn_erection : PureFn Tryd.prog 16 g_erection := of_erection fun d id r h hb => by
  have h' : onlyL d (Sh.enc r_ls (picks d (erectC d id))) = some r := h
  obtain ⟨hok, _, hl, rfl⟩ := onlyL_of h'
  clear h h'
  unfold F_erection
  refine ⟨[], rfl, ?_⟩
  refine loopK_ix d.2.2.2.1.length (fun k s => ∃ es, s = ((k : Int), es, ()) ∧ Held d.2.2.2.1 (erectC d id) k es) ⟨[], rfl, Held.zero _ _⟩ ?_
  rintro X k s hk ⟨es, rfl, he⟩ hX
  dsimp only
  by_cases hlt : k < d.2.2.2.1.length
  · refine iteP_yes (by simp [hlt]) ?_
    rw [rowsK_at (r := ySeam) hlt]
    have hw : IntKind.i64.wrap ((k : Int) + 1) = ((k + 1 : Nat) : Int) := wrap_id _ (by omega) (by omega)
    have yes := fun (hc : (erectC d id) d.2.2.2.1[k] = true) => held_ins he hlt hc (fun y => X (IntKind.i64.wrap ((k : Int) + 1), y, ())) (hX _ hlt ⟨_, by rw [hw], he.yes hlt hc⟩)
    have no := fun (hc : (erectC d id) d.2.2.2.1[k] = false) => decMK_eI (r := .str) rfl es (fun y => X (IntKind.i64.wrap ((k : Int) + 1), y, ())) (hX _ hlt ⟨_, by rw [hw], he.no hlt hc⟩)
    refine callK_some (s := r_lslsb) (y := (pathOf d d.2.2.2.1[k].2.1, pathOf d d.2.2.2.1[k].2.2.1, placed d d.2.2.2.1[k])) (by rw [g_ways_at, sp_ways, onlyD_ok _ hok]) ?_
    dsimp only
    cases hp : placed d d.2.2.2.1[k] with
    | false =>
      rw [iteP_f]
      exact no (by simp [erectC, hp])
    | true =>
      obtain ⟨ha, hb⟩ := placed_len hp
      rw [iteP_t]
      refine callK_some (s := r_ls) (y := way d d.2.2.2.1[k]) g_common_at ?_
      by_cases h0 : (way d d.2.2.2.1[k]).length = 0
      · refine iteP_yes (by simp [h0]) ?_
        refine head_at ha _ ?_
        by_cases h1 : headOf (pathOf d d.2.2.2.1[k].2.1) = id
        · exact iteP_yes h1 (yes (by simp [erectC, hp, h0, h1]))
        · refine iteP_no h1 ?_
          refine head_at hb _ ?_
          by_cases h2 : headOf (pathOf d d.2.2.2.1[k].2.2.1) = id
          · exact iteP_yes h2 (yes (by simp [erectC, hp, h0, h2]))
          · exact iteP_no h2 (no (by simp [erectC, hp, h0, h1, h2]))
      · exact iteP_no (by simpa using h0) (no (by simp [erectC, h0]))
  · have : k = d.2.2.2.1.length := by omega
    subst this
    refine iteP_no (by simp) ?_
    refine chosen_tail (by have := he.2.2.2; omega) he.2.1 (R := fun y => y = Sh.enc r_ls (picks d (erectC d id))) ?_
    rw [he.1, List.take_length]; rfl
end Go.Pv
