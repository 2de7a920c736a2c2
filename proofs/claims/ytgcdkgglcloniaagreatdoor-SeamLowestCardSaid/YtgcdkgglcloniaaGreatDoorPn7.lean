/-
  vec.Valid; material: Check, Grade, Rolled.
  part: Check, Mass.
  Chapter 17: the tree's parts and packages in full.
  Chapter 17: the tree's packages in full.
  Chapter 17: structure.Check in full.
-/
import Derived.Test.YtgcdkgglcloniaaGreatDoorPn6
import Derived.Test.YtgcdkgglcloniaaGreatDoorPn5
import Derived.Sort.Walk0
set_option linter.unusedSimpArgs false
set_option linter.unusedVariables false
set_option maxRecDepth 100000
namespace Go.Pv
open Go Go.Proofs
set_option maxRecDepth 100000
noncomputable def E_vwithin : Env := Env.of []
def H_vwithin : FuncId → Hint := fun f => match f == 110 with | true => ⟨fun r => match r == 2 with | true => .unroll 4 | false => .none, fun _ _ => none, fun _ => none⟩ | false => noHint
theorem Eok_vwithin : EnvOk Tryz.prog E_vwithin := EnvOk.nil _
def F_vwithin (a0 : TVec) (a1 : Int) (R : T → Prop) : Prop :=
 iteP (decide (a0.fst < IntKind.i64.wrap (0 - a1))) (R (T.v (Value.bool false)))
 (iteP (decide (a1 < a0.fst)) (R (T.v (Value.bool false)))
 (iteP (decide (a0.snd.fst < IntKind.i64.wrap (0 - a1))) (R (T.v (Value.bool false)))
 (iteP (decide (a1 < a0.snd.fst)) (R (T.v (Value.bool false)))
 (iteP (decide (a0.snd.snd < IntKind.i64.wrap (0 - a1))) (R (T.v (Value.bool false)))
 (iteP (decide (a1 < a0.snd.snd)) (R (T.v (Value.bool false)))
 (R (T.v (Value.bool true))))))))
theorem F_vwithin_eq (a0 : TVec) (a1 : Int) (R : T → Prop) : sxTop stdC2 Tryz.prog E_vwithin H_vwithin 8 110 [encV true yVec a0, encV false (Sy.int IntKind.i64) a1] R = F_vwithin a0 a1 R := by kernel_rfl
abbrev s_vwithin : Sh := [(true, yVec), (false, (Sy.int IntKind.i64))]
abbrev r_vwithin : Sh := [(false, Sy.bool)]
theorem r_vwithin_call (y : Sh.den r_vwithin) (K : Sh.den r_vwithin → Prop) : callK r_vwithin (some (Sh.enc r_vwithin y)) K = K y := callK_enc rfl y K

def vecIn (v : TVec) : Bool := decide (-524288 ≤ v.1) && decide (v.1 ≤ 524288) && (decide (-524288 ≤ v.2.1) && decide (v.2.1 ≤ 524288)) && (decide (-524288 ≤ v.2.2) && decide (v.2.2 ≤ 524288))
def sp_vwithin (x : TVec × Int) : Option T := match decide (x.2 = 524288) with
  | true => some (T.v (Value.bool (vecIn x.1)))
  | false => none
noncomputable def g_vwithin : List T → Option (T) := gS s_vwithin sp_vwithin
theorem g_vwithin_at {a0 : TVec} {a1 : Int} : g_vwithin [encV true yVec a0, T.v (Value.int IntKind.i64 a1)] = sp_vwithin (a0, a1) := gS_enc (s := s_vwithin) rfl (a0, a1) rfl
theorem g_vwithin_op {u0 u1 u2 u3} : g_vwithin [T.agg
    [T.v (Value.int IntKind.i64 u0), T.v (Value.int IntKind.i64 u1),
      T.v (Value.int IntKind.i64 u2)],
  T.v (Value.int IntKind.i64 u3)] = sp_vwithin ((u0, (u1, u2)), u3) := gS_enc (s := s_vwithin) rfl ((u0, (u1, u2)), u3) rfl
theorem of_vwithin (h : ∀ (a0 : TVec) (a1 : Int) (r : T), sp_vwithin (a0, a1) = some r → BdSh s_vwithin (a0, a1) → F_vwithin a0 a1 (fun y => y = r)) : PureFn Tryz.prog 110 g_vwithin :=
  pureFn_S (E := E_vwithin) (Hs := H_vwithin) Eok_vwithin mixed' plain' (noHeap_of rfl) 8 ⟨_, _, Tryz.func110, rfl⟩ rfl fun x r h1 h2 => by
    obtain ⟨a0, a1⟩ := x
    rw [show Sh.encs s_vwithin (a0, a1) = [encV true yVec a0, encV false (Sy.int IntKind.i64) a1] from rfl, F_vwithin_eq]
    exact h a0 a1 r h1 h2

theorem fn_vwithin : PureFn Tryz.prog 110 g_vwithin := of_vwithin fun v n r h hb => by
  unfold sp_vwithin at h
  split at h
  · rename_i hn
    have hn : n = 524288 := of_decide_eq_true hn
    subst hn
    cases h
    unfold F_vwithin
    rw [show IntKind.i64.wrap (0 - 524288) = -524288 from rfl]
    have no : ∀ {P : Prop}, (¬ (-524288 ≤ v.1 ∧ v.1 ≤ 524288 ∧ -524288 ≤ v.2.1 ∧ v.2.1 ≤ 524288 ∧ -524288 ≤ v.2.2 ∧ v.2.2 ≤ 524288)) → T.v (Value.bool false) = T.v (Value.bool (vecIn v)) := fun h => bres (Eq.symm (by
      rw [Bool.eq_false_iff]; intro h2; simp only [vecIn, Bool.and_eq_true, decide_eq_true_eq] at h2; omega))
    refine ifP (fun h => no (P := True) (by omega)) fun h1 => ifP (fun h => no (P := True) (by omega)) fun h2 => ifP (fun h => no (P := True) (by omega)) fun h3 => ifP (fun h => no (P := True) (by omega)) fun h4 => ifP (fun h => no (P := True) (by omega)) fun h5 => ifP (fun h => no (P := True) (by omega)) fun h6 => bres ?_
    simp only [vecIn]
    rw [decide_eq_true (by omega), decide_eq_true (by omega), decide_eq_true (by omega), decide_eq_true (by omega), decide_eq_true (by omega), decide_eq_true (by omega)]; rfl
  · cases h
def numV (t : Int) : Int := if t < 0 ∨ 24 ≤ t then 0 else t
set_option maxRecDepth 100000
noncomputable def E_vnumber : Env := Env.of []
def H_vnumber : FuncId → Hint := fun _ => noHint
theorem Eok_vnumber : EnvOk Tryz.prog E_vnumber := EnvOk.nil _
def F_vnumber (a0 : Int) (R : T → Prop) : Prop :=
 iteP (decide (a0 < 0)) (R (T.v (Value.int IntKind.i64 0)))
 (iteP (decide (24 ≤ a0)) (R (T.v (Value.int IntKind.i64 0)))
 (R (T.v (Value.int IntKind.i64 a0))))
theorem F_vnumber_eq (a0 : Int) (R : T → Prop) : sxTop stdC2 Tryz.prog E_vnumber H_vnumber 8 111 [encV false (Sy.int IntKind.i64) a0] R = F_vnumber a0 R := by kernel_rfl
abbrev s_vnumber : Sh := [(false, (Sy.int IntKind.i64))]
abbrev r_vnumber : Sh := [(false, Sy.int IntKind.i64)]
theorem r_vnumber_call (y : Sh.den r_vnumber) (K : Sh.den r_vnumber → Prop) : callK r_vnumber (some (Sh.enc r_vnumber y)) K = K y := callK_enc rfl y K

def sp_vnumber (t : Int) : Option T := some (T.v (Value.int .i64 (numV t)))
noncomputable def g_vnumber : List T → Option (T) := gS s_vnumber sp_vnumber
theorem g_vnumber_at {a0 : Int} : g_vnumber [T.v (Value.int IntKind.i64 a0)] = sp_vnumber (a0) := gS_enc (s := s_vnumber) rfl (a0) rfl
theorem g_vnumber_op {u0} : g_vnumber [T.v (Value.int IntKind.i64 u0)] = sp_vnumber (u0) := gS_enc (s := s_vnumber) rfl (u0) rfl
theorem of_vnumber (h : ∀ (a0 : Int) (r : T), sp_vnumber (a0) = some r → BdSh s_vnumber (a0) → F_vnumber a0 (fun y => y = r)) : PureFn Tryz.prog 111 g_vnumber :=
  pureFn_S (E := E_vnumber) (Hs := H_vnumber) Eok_vnumber mixed' plain' (noHeap_of rfl) 8 ⟨_, _, Tryz.func111, rfl⟩ rfl fun x r h1 h2 => by
    let a0 := x
    rw [show Sh.encs s_vnumber (a0) = [encV false (Sy.int IntKind.i64) a0] from rfl, F_vnumber_eq]
    exact h a0 r h1 h2

theorem fn_vnumber : PureFn Tryz.prog 111 g_vnumber := of_vnumber fun t r h hb => by
  cases h
  unfold F_vnumber
  exact ifP (fun h => ires (by unfold numV; rw [if_pos (.inl h)])) fun h1 => ifP (fun h => ires (by unfold numV; rw [if_pos (.inr h)])) fun h2 => ires (by unfold numV; rw [if_neg (by omega)])
def placeB (p : TPlace) : Bool := vecIn p.1 && decide (p.2 = numV p.2)
set_option maxRecDepth 100000
noncomputable def E_vvalid : Env := Env.of [(110, .pure g_vwithin), (111, .pure g_vnumber)]
def H_vvalid : FuncId → Hint := fun _ => noHint
theorem Eok_vvalid : EnvOk Tryz.prog E_vvalid := EnvOk.cons (x := .pure g_vwithin) fn_vwithin (EnvOk.cons (x := .pure g_vnumber) fn_vnumber (EnvOk.nil _))
def F_vvalid (a0 : TPlace) (R : T → Prop) : Prop :=
 callK [(false, Sy.bool)]
 (g_vwithin [encV true yVec a0.fst, T.v (Value.int IntKind.i64 524288)])
 fun (y0 : Bool) =>
 iteP y0
 (callK [(false, Sy.int IntKind.i64)]
 (g_vnumber [T.v (Value.int IntKind.i64 a0.snd)]) fun (y1 : Int) =>
 R (T.v (Value.bool (decide (a0.snd = y1)))))
 (R (T.v (Value.bool false)))
theorem F_vvalid_eq (a0 : TPlace) (R : T → Prop) : sxTop stdC2 Tryz.prog E_vvalid H_vvalid 8 86 [encV true yPlace a0] R = F_vvalid a0 R := by kernel_rfl
abbrev s_vvalid : Sh := [(true, yPlace)]
abbrev r_vvalid : Sh := [(false, Sy.bool)]
theorem r_vvalid_call (y : Sh.den r_vvalid) (K : Sh.den r_vvalid → Prop) : callK r_vvalid (some (Sh.enc r_vvalid y)) K = K y := callK_enc rfl y K

def sp_vvalid (p : TPlace) : Option T := some (T.v (Value.bool (placeB p)))
noncomputable def g_vvalid : List T → Option (T) := gS s_vvalid sp_vvalid
theorem g_vvalid_at {a0 : TPlace} : g_vvalid [encV true yPlace a0] = sp_vvalid (a0) := gS_enc (s := s_vvalid) rfl (a0) rfl
theorem g_vvalid_op {u0 u1 u2 u3} : g_vvalid [T.agg
    [T.v (Value.int IntKind.i64 u0), T.v (Value.int IntKind.i64 u1),
      T.v (Value.int IntKind.i64 u2), T.v (Value.int IntKind.i64 u3)]] = sp_vvalid (((u0, (u1, u2)), u3)) := gS_enc (s := s_vvalid) rfl (((u0, (u1, u2)), u3)) rfl
theorem of_vvalid (h : ∀ (a0 : TPlace) (r : T), sp_vvalid (a0) = some r → BdSh s_vvalid (a0) → F_vvalid a0 (fun y => y = r)) : PureFn Tryz.prog 86 g_vvalid :=
  pureFn_S (E := E_vvalid) (Hs := H_vvalid) Eok_vvalid mixed' plain' (noHeap_of rfl) 8 ⟨_, _, Tryz.func86, rfl⟩ rfl fun x r h1 h2 => by
    let a0 := x
    rw [show Sh.encs s_vvalid (a0) = [encV true yPlace a0] from rfl, F_vvalid_eq]
    exact h a0 r h1 h2

theorem fn_vvalid : PureFn Tryz.prog 86 g_vvalid := of_vvalid fun p r h hb => by
  cases h
  unfold F_vvalid
  refine callK_some (s := [(false, .bool)]) (y := vecIn p.1) (g_vwithin_at ..) ?_
  refine ifB (fun h => ?_) fun h => bres (by unfold placeB; rw [h]; rfl)
  refine callK_some (s := [(false, .int .i64)]) (y := numV p.2) (g_vnumber_at ..) ?_
  exact bres (by unfold placeB; rw [h]; rfl)
/-! ### Catalogs -/
def gaugeI (l : List Int) (i : Nat) : Int := if ¬ (1 ≤ l.getD i 0 ∧ l.getD i 0 ≤ 120) then 9 else if 0 < i ∧ l.getD i 0 ≤ l.getD (i - 1) 0 then 11 else 0
def gradeE (g : TGrade) : Int := if isName g.1 = false then 6 else if ¬ (1000 ≤ g.2.1 ∧ g.2.1 ≤ 20000 ∧ 100 ≤ g.2.2.1 ∧ g.2.2.1 ≤ 1500) then 9 else if g.2.2.2.length = 0 then 3 else if 16 < g.2.2.2.length then 4 else firstE (gaugeI g.2.2.2) (List.range g.2.2.2.length)
def secE (s : TSection) : Int := if isName s.1 = false then 6 else if ¬ (1 ≤ s.2.1 ∧ s.2.1 ≤ 1000000 ∧ 1 ≤ s.2.2.1 ∧ s.2.2.1 ≤ 2000 ∧ 100 ≤ s.2.2.2 ∧ s.2.2.2 ≤ 32768) then 9 else 0
theorem isName_call (s : ByteArray) (K : Bool → Prop) : callK [(false, Sy.bool)] (g_isName [T.v (Value.string s)]) K = K (isName s) := by
  rw [show g_isName [T.v (Value.string s)] = sp_isName s from g_isName_at]
  exact r_isName_call _ K
set_option maxRecDepth 100000
noncomputable def E_mgrade : Env := Env.of [(40, .pure g_isName)]
def H_mgrade : FuncId → Hint := fun f => match f == 55 with | true => ⟨fun r => match r == 10 with | true => .inv [.val 34 false (.int .i64)] | false => .none, fun _ _ => none, fun _ => none⟩ | false => noHint
theorem Eok_mgrade : EnvOk Tryz.prog E_mgrade := EnvOk.cons (x := .pure g_isName) fn_isName (EnvOk.nil _)
def F_mgrade (a0 : TGrade) (R : T → Prop) : Prop :=
 callK [(false, Sy.bool)] (g_isName [T.v (Value.string a0.fst)]) fun (y0 : Bool) =>
 iteP (!y0) (R (T.v (Value.int IntKind.i64 6)))
 (iteP (decide (1000 ≤ a0.snd.fst))
 (iteP (!decide (a0.snd.fst ≤ 20000)) (R (T.v (Value.int IntKind.i64 9)))
 (iteP (decide (100 ≤ a0.snd.snd.fst))
 (iteP (!decide (a0.snd.snd.fst ≤ 1500)) (R (T.v (Value.int IntKind.i64 9)))
 (iteP (decide ((↑(List.map (Sy.int IntKind.i64).enc a0.snd.snd.snd).length : Int) = 0))
 (R (T.v (Value.int IntKind.i64 3)))
 (iteP (decide (16 < (↑(List.map (Sy.int IntKind.i64).enc a0.snd.snd.snd).length : Int)))
 (R (T.v (Value.int IntKind.i64 4)))
 (loopK (Int × PUnit)
 (fun (X1 : Int × PUnit → Prop) (s2 : Int × PUnit) =>
 iteP
 (decide (s2.fst < (↑(List.map (Sy.int IntKind.i64).enc a0.snd.snd.snd).length : Int)))
 (rowsK (Sy.int IntKind.i64)
 (List.map (Sy.int IntKind.i64).enc a0.snd.snd.snd) s2.fst fun (y3 : Int) =>
 iteP (decide (1 ≤ y3))
 (iteP (!decide (y3 ≤ 120)) (R (T.v (Value.int IntKind.i64 9)))
 (iteP (decide (0 < s2.fst))
 (rowsK (Sy.int IntKind.i64)
 (List.map (Sy.int IntKind.i64).enc a0.snd.snd.snd)
 (IntKind.i64.wrap (s2.fst - 1)) fun (y4 : Int) =>
 iteP (decide (y3 ≤ y4)) (R (T.v (Value.int IntKind.i64 11)))
 (X1 (IntKind.i64.wrap (s2.fst + 1), ())))
 (X1 (IntKind.i64.wrap (s2.fst + 1), ()))))
 (R (T.v (Value.int IntKind.i64 9))))
 (R (T.v (Value.int IntKind.i64 0))))
 (0, ())))))
 (R (T.v (Value.int IntKind.i64 9)))))
 (R (T.v (Value.int IntKind.i64 9))))
theorem F_mgrade_eq (a0 : TGrade) (R : T → Prop) : sxTop stdC2 Tryz.prog E_mgrade H_mgrade 8 55 [encV true yGrade a0] R = F_mgrade a0 R := by kernel_rfl
abbrev s_mgrade : Sh := [(true, yGrade)]
abbrev r_mgrade : Sh := [(false, Sy.int IntKind.i64)]
theorem r_mgrade_call (y : Sh.den r_mgrade) (K : Sh.den r_mgrade → Prop) : callK r_mgrade (some (Sh.enc r_mgrade y)) K = K y := callK_enc rfl y K

def sp_mgrade (g : TGrade) : Option T := some (T.v (Value.int .i64 (gradeE g)))
noncomputable def g_mgrade : List T → Option (T) := gS s_mgrade sp_mgrade
theorem g_mgrade_at {a0 : TGrade} : g_mgrade [encV true yGrade a0] = sp_mgrade (a0) := gS_enc (s := s_mgrade) rfl (a0) rfl
theorem g_mgrade_op {u0 u1 u2 u3} : g_mgrade [T.agg
    [T.v (Value.string u0), T.v (Value.int IntKind.i64 u1),
      T.v (Value.int IntKind.i64 u2),
      T.sl false (List.map (Sy.int IntKind.i64).enc u3)]] = sp_mgrade ((u0, (u1, (u2, u3)))) := gS_enc (s := s_mgrade) rfl ((u0, (u1, (u2, u3)))) rfl
theorem of_mgrade (h : ∀ (a0 : TGrade) (r : T), sp_mgrade (a0) = some r → BdSh s_mgrade (a0) → F_mgrade a0 (fun y => y = r)) : PureFn Tryz.prog 55 g_mgrade :=
  pureFn_S (E := E_mgrade) (Hs := H_mgrade) Eok_mgrade mixed' plain' (noHeap_of rfl) 8 ⟨_, _, Tryz.func55, rfl⟩ rfl fun x r h1 h2 => by
    let a0 := x
    rw [show Sh.encs s_mgrade (a0) = [encV true yGrade a0] from rfl, F_mgrade_eq]
    exact h a0 r h1 h2

theorem getD_at {α : Type} {l : List α} {i : Nat} {d : α} (h : i < l.length) : l.getD i d = l[i] := by rw [List.getD_eq_getElem?_getD, List.getElem?_eq_getElem h]; rfl
theorem prev_at {r : Sy} {l : List r.den} {k : Nat} (hk : k < l.length) (h0 : 0 < k) (hl : l.length ≤ 1000000) (K : r.den → Prop) : rowsK r (List.map r.enc l) (IntKind.i64.wrap ((k : Int) - 1)) K = K (l[k - 1]'(by omega)) := by
  rw [show IntKind.i64.wrap ((k : Int) - 1) = ((k - 1 : Nat) : Int) by rw [wrap_id _ (by omega) (by omega)]; omega]
  exact rowsK_at (by omega) K
theorem next_w {k : Nat} (h : k < 1000000) : IntKind.i64.wrap ((k : Int) + 1) = ((k + 1 : Nat) : Int) := wrap_id _ (by omega) (by omega)
theorem fn_mgrade : PureFn Tryz.prog 55 g_mgrade := of_mgrade fun g r h hb => by
  cases h
  have is : ∀ {n : Int}, gradeE g = n → T.v (Value.int IntKind.i64 n) = T.v (Value.int IntKind.i64 (gradeE g)) := fun h => by rw [h]
  unfold F_mgrade
  rw [isName_call]
  refine ifNB (fun h => is (by unfold gradeE; rw [if_pos h])) fun hn => ?_
  have hn' : ¬ isName g.1 = false := by rw [hn]; simp
  have r9 : ¬ (1000 ≤ g.2.1 ∧ g.2.1 ≤ 20000 ∧ 100 ≤ g.2.2.1 ∧ g.2.2.1 ≤ 1500) → T.v (Value.int IntKind.i64 9) = T.v (Value.int IntKind.i64 (gradeE g)) := fun h => is (by unfold gradeE; rw [if_neg hn', if_pos h])
  refine ifP (fun h1 => ifQ (fun h => r9 (by omega)) fun h2 => ifP (fun h3 => ifQ (fun h => r9 (by omega)) fun h4 => ?_) fun h => r9 (by omega)) fun h => r9 (by omega)
  have hr : ¬ ¬ (1000 ≤ g.2.1 ∧ g.2.1 ≤ 20000 ∧ 100 ≤ g.2.2.1 ∧ g.2.2.1 ≤ 1500) := by omega
  refine ifP (fun h => is (by rw [List.length_map] at h; unfold gradeE; rw [if_neg hn', if_neg hr, if_pos (by omega)])) fun h5 => ?_
  refine ifP (fun h => is (by rw [List.length_map] at h h5; unfold gradeE; rw [if_neg hn', if_neg hr, if_neg (by omega), if_pos (by omega)])) fun h6 => ?_
  rw [List.length_map] at h5 h6
  have w : gradeE g = firstE (gaugeI g.2.2.2) (List.range g.2.2.2.length) := by unfold gradeE; rw [if_neg hn', if_neg hr, if_neg (by omega), if_neg (by omega)]
  refine first_loopI (r := .int .i64) (gaugeI g.2.2.2) (by omega) (fun X k hk hprev hok hbad => ?_) fun h0 => is (w.trans h0)
  have hk : k < g.2.2.2.length := hk
  have bad : ∀ {n : Int}, n ≠ 0 → gaugeI g.2.2.2 k = n → T.v (Value.int IntKind.i64 n) = T.v (Value.int IntKind.i64 (gradeE g)) := fun hn h => is (w.trans ((hbad (by rw [h]; exact hn)).trans h))
  have hE : gaugeI g.2.2.2 k = if ¬ (1 ≤ g.2.2.2[k] ∧ g.2.2.2[k] ≤ 120) then 9 else if 0 < k ∧ g.2.2.2[k] ≤ g.2.2.2.getD (k - 1) 0 then 11 else 0 := by unfold gaugeI; rw [getD_at hk]
  dsimp only
  rw [next_w (by omega)]
  refine ifP (fun p1 => ifQ (fun h => bad (by decide) (by rw [hE, if_pos (by omega)])) fun p2 => ?_) fun h => bad (by decide) (by rw [hE, if_pos (by omega)])
  refine ifP (fun p3 => ?_) fun p3 => hok (by rw [hE, if_neg (by omega), if_neg (by omega)])
  have k0 : 0 < k := by omega
  rw [prev_at (r := .int .i64) hk k0 (by omega)]
  have hg1 : g.2.2.2.getD (k - 1) 0 = g.2.2.2[k - 1]'(by omega) := getD_at (by omega)
  exact ifP (fun h => bad (by decide) (by rw [hE, if_neg (by omega), hg1, if_pos ⟨k0, h⟩])) fun h => hok (by rw [hE, if_neg (by omega), hg1, if_neg (fun hc => h hc.2)])
set_option maxRecDepth 100000
noncomputable def E_msection : Env := Env.of [(40, .pure g_isName)]
def H_msection : FuncId → Hint := fun _ => noHint
theorem Eok_msection : EnvOk Tryz.prog E_msection := EnvOk.cons (x := .pure g_isName) fn_isName (EnvOk.nil _)
def F_msection (a0 : TSection) (R : T → Prop) : Prop :=
 callK [(false, Sy.bool)] (g_isName [T.v (Value.string a0.fst)]) fun (y0 : Bool) =>
 iteP (!y0) (R (T.v (Value.int IntKind.i64 6)))
 (iteP (decide (1 ≤ a0.snd.fst))
 (iteP (!decide (a0.snd.fst ≤ 1000000)) (R (T.v (Value.int IntKind.i64 9)))
 (iteP (decide (1 ≤ a0.snd.snd.fst))
 (iteP (!decide (a0.snd.snd.fst ≤ 2000)) (R (T.v (Value.int IntKind.i64 9)))
 (iteP (decide (100 ≤ a0.snd.snd.snd))
 (iteP (!decide (a0.snd.snd.snd ≤ 32768)) (R (T.v (Value.int IntKind.i64 9)))
 (R (T.v (Value.int IntKind.i64 0))))
 (R (T.v (Value.int IntKind.i64 9)))))
 (R (T.v (Value.int IntKind.i64 9)))))
 (R (T.v (Value.int IntKind.i64 9))))
theorem F_msection_eq (a0 : TSection) (R : T → Prop) : sxTop stdC2 Tryz.prog E_msection H_msection 8 56 [encV true ySection a0] R = F_msection a0 R := by kernel_rfl
abbrev s_msection : Sh := [(true, ySection)]
abbrev r_msection : Sh := [(false, Sy.int IntKind.i64)]
theorem r_msection_call (y : Sh.den r_msection) (K : Sh.den r_msection → Prop) : callK r_msection (some (Sh.enc r_msection y)) K = K y := callK_enc rfl y K

def sp_msection (s : TSection) : Option T := some (T.v (Value.int .i64 (secE s)))
noncomputable def g_msection : List T → Option (T) := gS s_msection sp_msection
theorem g_msection_at {a0 : TSection} : g_msection [encV true ySection a0] = sp_msection (a0) := gS_enc (s := s_msection) rfl (a0) rfl
theorem g_msection_op {u0 u1 u2 u3} : g_msection [T.agg
    [T.v (Value.string u0), T.v (Value.int IntKind.i64 u1),
      T.v (Value.int IntKind.i64 u2), T.v (Value.int IntKind.i64 u3)]] = sp_msection ((u0, (u1, (u2, u3)))) := gS_enc (s := s_msection) rfl ((u0, (u1, (u2, u3)))) rfl
theorem of_msection (h : ∀ (a0 : TSection) (r : T), sp_msection (a0) = some r → BdSh s_msection (a0) → F_msection a0 (fun y => y = r)) : PureFn Tryz.prog 56 g_msection :=
  pureFn_S (E := E_msection) (Hs := H_msection) Eok_msection mixed' plain' (noHeap_of rfl) 8 ⟨_, _, Tryz.func56, rfl⟩ rfl fun x r h1 h2 => by
    let a0 := x
    rw [show Sh.encs s_msection (a0) = [encV true ySection a0] from rfl, F_msection_eq]
    exact h a0 r h1 h2

theorem fn_msection : PureFn Tryz.prog 56 g_msection := of_msection fun s r h hb => by
  cases h
  have is : ∀ {n : Int}, secE s = n → T.v (Value.int IntKind.i64 n) = T.v (Value.int IntKind.i64 (secE s)) := fun h => by rw [h]
  unfold F_msection
  rw [isName_call]
  refine ifNB (fun h => is (by unfold secE; rw [if_pos h])) fun hn => ?_
  have hn' : ¬ isName s.1 = false := by rw [hn]; simp
  have r9 : ¬ (1 ≤ s.2.1 ∧ s.2.1 ≤ 1000000 ∧ 1 ≤ s.2.2.1 ∧ s.2.2.1 ≤ 2000 ∧ 100 ≤ s.2.2.2 ∧ s.2.2.2 ≤ 32768) → T.v (Value.int IntKind.i64 9) = T.v (Value.int IntKind.i64 (secE s)) := fun h => is (by unfold secE; rw [if_neg hn', if_pos h])
  refine ifP (fun h1 => ifQ (fun h => r9 (by omega)) fun h2 => ifP (fun h3 => ifQ (fun h => r9 (by omega)) fun h4 => ifP (fun h5 => ifQ (fun h => r9 (by omega)) fun h6 => is ?_) fun h => r9 (by omega)) fun h => r9 (by omega)) fun h => r9 (by omega)
  unfold secE; rw [if_neg hn', if_neg (by omega)]
def noGrade : TGrade := (⟨#[]⟩, 0, 0, [])
/-- Is a name not behind another one? -/
def notUp (a b : ByteArray) : Bool := sless a b || decide (a = b)
def gradeI (m : TMaterials) (i : Nat) : Int := if ¬ gradeE (m.1.getD i noGrade) = 0 then gradeE (m.1.getD i noGrade) else if 0 < i ∧ notUp (m.1.getD i noGrade).1 (m.1.getD (i - 1) noGrade).1 = true then 11 else 0
def secI (m : TMaterials) (i : Nat) : Int := if ¬ secE (m.2.getD i noSec) = 0 then secE (m.2.getD i noSec) else if 0 < i ∧ notUp (m.2.getD i noSec).1 (m.2.getD (i - 1) noSec).1 = true then 11 else 0
def matE (m : TMaterials) : Int := if 16 < m.1.length ∨ 32 < m.2.length then 4 else if ¬ firstE (gradeI m) (List.range m.1.length) = 0 then firstE (gradeI m) (List.range m.1.length) else firstE (secI m) (List.range m.2.length)
set_option maxRecDepth 100000
noncomputable def E_mcheck : Env := Env.of [(55, .pure g_mgrade), (56, .pure g_msection)]
def H_mcheck : FuncId → Hint := fun f => match f == 39 with | true => ⟨fun r => match r == 4 with | true => .inv [.val 22 false (.int .i64)] | false => match r == 13 with | true => .inv [.val 50 false (.int .i64)] | false => .none, fun _ _ => none, fun _ => none⟩ | false => noHint
theorem Eok_mcheck : EnvOk Tryz.prog E_mcheck := EnvOk.cons (x := .pure g_mgrade) fn_mgrade (EnvOk.cons (x := .pure g_msection) fn_msection (EnvOk.nil _))
def F_mcheck (a0 : TMaterials) (R : T → Prop) : Prop :=
 iteP (decide (16 < (↑(List.map yGrade.enc a0.fst).length : Int)))
 (R (T.v (Value.int IntKind.i64 4)))
 (iteP (decide (32 < (↑(List.map ySection.enc a0.snd).length : Int)))
 (R (T.v (Value.int IntKind.i64 4)))
 (loopK (Int × PUnit)
 (fun (X0 : Int × PUnit → Prop) (s1 : Int × PUnit) =>
 iteP (decide (s1.fst < (↑(List.map yGrade.enc a0.fst).length : Int)))
 (rowsK yGrade (List.map yGrade.enc a0.fst) s1.fst fun (y2 : TGrade) =>
 callK [(false, Sy.int IntKind.i64)] (g_mgrade [encV true yGrade y2])
 fun (y3 : Int) =>
 iteP (!decide (y3 = 0)) (R (T.v (Value.int IntKind.i64 y3)))
 (iteP (decide (0 < s1.fst))
 (rowsK yGrade (List.map yGrade.enc a0.fst) (IntKind.i64.wrap (s1.fst - 1))
 fun (y4 : TGrade) =>
 iteP (sless y2.fst y4.fst || decide (y2.fst = y4.fst))
 (R (T.v (Value.int IntKind.i64 11))) (X0 (IntKind.i64.wrap (s1.fst + 1), ())))
 (X0 (IntKind.i64.wrap (s1.fst + 1), ()))))
 (loopK (Int × PUnit)
 (fun (X5 : Int × PUnit → Prop) (s6 : Int × PUnit) =>
 iteP (decide (s6.fst < (↑(List.map ySection.enc a0.snd).length : Int)))
 (rowsK ySection (List.map ySection.enc a0.snd) s6.fst fun (y7 : TSection) =>
 callK [(false, Sy.int IntKind.i64)]
 (g_msection [encV true ySection y7]) fun (y8 : Int) =>
 iteP (!decide (y8 = 0)) (R (T.v (Value.int IntKind.i64 y8)))
 (iteP (decide (0 < s6.fst))
 (rowsK ySection (List.map ySection.enc a0.snd)
 (IntKind.i64.wrap (s6.fst - 1)) fun (y9 : TSection) =>
 iteP (sless y7.fst y9.fst || decide (y7.fst = y9.fst))
 (R (T.v (Value.int IntKind.i64 11)))
 (X5 (IntKind.i64.wrap (s6.fst + 1), ())))
 (X5 (IntKind.i64.wrap (s6.fst + 1), ()))))
 (R (T.v (Value.int IntKind.i64 0))))
 (0, ())))
 (0, ())))
theorem F_mcheck_eq (a0 : TMaterials) (R : T → Prop) : sxTop stdC2 Tryz.prog E_mcheck H_mcheck 8 39 [encV true yMaterials a0] R = F_mcheck a0 R := by kernel_rfl
abbrev s_mcheck : Sh := [(true, yMaterials)]
abbrev r_mcheck : Sh := [(false, Sy.int IntKind.i64)]
theorem r_mcheck_call (y : Sh.den r_mcheck) (K : Sh.den r_mcheck → Prop) : callK r_mcheck (some (Sh.enc r_mcheck y)) K = K y := callK_enc rfl y K

def sp_mcheck (m : TMaterials) : Option T := some (T.v (Value.int .i64 (matE m)))
noncomputable def g_mcheck : List T → Option (T) := gS s_mcheck sp_mcheck
theorem g_mcheck_at {a0 : TMaterials} : g_mcheck [encV true yMaterials a0] = sp_mcheck (a0) := gS_enc (s := s_mcheck) rfl (a0) rfl
theorem g_mcheck_op {u0 u1} : g_mcheck [T.agg [T.sl false (List.map yGrade.enc u0), T.sl false (List.map ySection.enc u1)]] = sp_mcheck ((u0, u1)) := gS_enc (s := s_mcheck) rfl ((u0, u1)) rfl
theorem of_mcheck (h : ∀ (a0 : TMaterials) (r : T), sp_mcheck (a0) = some r → BdSh s_mcheck (a0) → F_mcheck a0 (fun y => y = r)) : PureFn Tryz.prog 39 g_mcheck :=
  pureFn_S (E := E_mcheck) (Hs := H_mcheck) Eok_mcheck mixed' plain' (noHeap_of rfl) 8 ⟨_, _, Tryz.func39, rfl⟩ rfl fun x r h1 h2 => by
    let a0 := x
    rw [show Sh.encs s_mcheck (a0) = [encV true yMaterials a0] from rfl, F_mcheck_eq]
    exact h a0 r h1 h2

theorem fn_mcheck : PureFn Tryz.prog 39 g_mcheck := of_mcheck fun m r h hb => by
  cases h
  have is : ∀ {n : Int}, matE m = n → T.v (Value.int IntKind.i64 n) = T.v (Value.int IntKind.i64 (matE m)) := fun h => by rw [h]
  unfold F_mcheck
  refine ifP (fun h => is (by rw [List.length_map] at h; unfold matE; rw [if_pos (by omega)])) fun h1 => ?_
  refine ifP (fun h => is (by rw [List.length_map] at h; unfold matE; rw [if_pos (by omega)])) fun h2 => ?_
  rw [List.length_map] at h1 h2
  refine first_loopI (r := yGrade) (gradeI m) (by show m.1.length ≤ 1000000; omega) (fun X k hk hprev hok hbad => ?_) fun h0 => ?_
  · have hk : k < m.1.length := hk
    have bad : ∀ {n : Int}, n ≠ 0 → gradeI m k = n → T.v (Value.int IntKind.i64 n) = T.v (Value.int IntKind.i64 (matE m)) := fun hn h => is (by
      have hb := (hbad (by rw [h]; exact hn)).trans h
      unfold matE; rw [if_neg (by omega), if_pos (by rw [hb]; exact hn), hb])
    have hE : gradeI m k = if ¬ gradeE m.1[k] = 0 then gradeE m.1[k] else if 0 < k ∧ notUp m.1[k].1 (m.1.getD (k - 1) noGrade).1 = true then 11 else 0 := by unfold gradeI; rw [getD_at hk]
    dsimp only
    rw [next_w (by omega)]
    refine callK_some (s := [(false, .int .i64)]) (y := gradeE m.1[k]) (g_mgrade_at ..) ?_
    refine ifQ (fun h => bad h (by rw [hE, if_pos h])) fun p1 => ?_
    refine ifP (fun p3 => ?_) fun p3 => hok (by rw [hE, if_neg (fun h => h p1), if_neg (by omega)])
    have k0 : 0 < k := by omega
    rw [prev_at (r := yGrade) hk k0 (by show m.1.length ≤ 1000000; omega)]
    have hg1 : m.1.getD (k - 1) noGrade = m.1[k - 1]'(by omega) := getD_at (by omega)
    exact ifB (fun h => bad (by decide) (by rw [hE, if_neg (fun h => h p1), hg1, if_pos ⟨k0, h⟩])) fun h => hok (by rw [hE, if_neg (fun h => h p1), hg1, if_neg (fun hc => by rw [show notUp m.1[k].1 (m.1[k - 1]'(by omega)).1 = false from h] at hc; cases hc.2)])
  · have w : matE m = firstE (secI m) (List.range m.2.length) := by unfold matE; rw [if_neg (by omega), if_neg (fun h => h h0)]
    refine first_loopI (r := ySection) (secI m) (by show m.2.length ≤ 1000000; omega) (fun X k hk hprev hok hbad => ?_) fun h0 => is (w.trans h0)
    have hk : k < m.2.length := hk
    have bad : ∀ {n : Int}, n ≠ 0 → secI m k = n → T.v (Value.int IntKind.i64 n) = T.v (Value.int IntKind.i64 (matE m)) := fun hn h => is (w.trans ((hbad (by rw [h]; exact hn)).trans h))
    have hE : secI m k = if ¬ secE m.2[k] = 0 then secE m.2[k] else if 0 < k ∧ notUp m.2[k].1 (m.2.getD (k - 1) noSec).1 = true then 11 else 0 := by unfold secI; rw [getD_at hk]
    dsimp only
    rw [next_w (by omega)]
    refine callK_some (s := [(false, .int .i64)]) (y := secE m.2[k]) (g_msection_at ..) ?_
    refine ifQ (fun h => bad h (by rw [hE, if_pos h])) fun p1 => ?_
    refine ifP (fun p3 => ?_) fun p3 => hok (by rw [hE, if_neg (fun h => h p1), if_neg (by omega)])
    have k0 : 0 < k := by omega
    rw [prev_at (r := ySection) hk k0 (by show m.2.length ≤ 1000000; omega)]
    have hg1 : m.2.getD (k - 1) noSec = m.2[k - 1]'(by omega) := getD_at (by omega)
    exact ifB (fun h => bad (by decide) (by rw [hE, if_neg (fun h => h p1), hg1, if_pos ⟨k0, h⟩])) fun h => hok (by rw [hE, if_neg (fun h => h p1), hg1, if_neg (fun hc => by rw [show notUp m.2[k].1 (m.2[k - 1]'(by omega)).1 = false from h] at hc; cases hc.2)])
/-! ### Grade, Rolled -/
def gradeOf (m : TMaterials) (n : ByteArray) : Option TGrade := m.1.find? fun g => decide (g.1 = n)
def okM (m : TMaterials) : Bool := decide (m.1.length ≤ 1000) && decide (m.2.length ≤ 1000) && m.1.all fun g => decide (g.2.2.2.length ≤ 1000)
def onlyM {α : Type} (m : TMaterials) (r : α) : Option α := match okM m with
  | true => some r
  | false => none
theorem onlyM_of {α : Type} {m : TMaterials} {t r : α} (h : onlyM m t = some r) : okM m = true ∧ r = t := by
  unfold onlyM at h; split at h
  · rename_i hc; cases h; exact ⟨hc, rfl⟩
  · cases h
theorem onlyM_ok {α : Type} {m : TMaterials} (t : α) (h : okM m = true) : onlyM m t = some t := by unfold onlyM; rw [h]
theorem cl_cloneI : CloneP Tryz.prog 114 1 8 := ⟨fun R => by kernel_rfl, fun fl R => by kernel_rfl, fun fl a rows R => by kernel_rfl⟩
noncomputable def g_cloneI : List T → Option T := gS [(false, .li (.int .i64))] (spCloneP (.int .i64) 8)
theorem g_cloneI_at {u0} : g_cloneI [T.sl false (List.map (Sy.enc (.int .i64)) u0)] = spCloneP (.int .i64) 8 u0 := gS_enc (s := [(false, .li (.int .i64))]) rfl u0 rfl
theorem fn_cloneI : PureFn Tryz.prog 114 g_cloneI := cloneP_of mixed' plain' ⟨_, _, Tryz.func114, rfl⟩ cl_cloneI

set_option maxRecDepth 100000
noncomputable def E_mGrade : Env := Env.of [(114, .pure g_cloneI)]
def H_mGrade : FuncId → Hint := fun f => match f == 112 with | true => ⟨fun r => match r == 2 with | true => .inv [.val 8 false (.int .i64)] | false => .none, fun _ _ => none, fun _ => none⟩ | false => noHint
theorem Eok_mGrade : EnvOk Tryz.prog E_mGrade := EnvOk.cons (x := .pure g_cloneI) fn_cloneI (EnvOk.nil _)
def F_mGrade (a0 : TMaterials) (a1 : ByteArray) (R : T → Prop) : Prop :=
 loopK (Int × PUnit)
 (fun (X0 : Int × PUnit → Prop) (s1 : Int × PUnit) =>
 iteP (decide (s1.fst < (↑(List.map yGrade.enc a0.fst).length : Int)))
 (rowsK yGrade (List.map yGrade.enc a0.fst) s1.fst fun (y2 : TGrade) =>
 iteP (decide (y2.fst = a1))
 (iteP (decide (s1.fst < 0))
 (R
 (T.tup
 [T.agg
 [T.v (Value.string { data := #[] }), T.v (Value.int IntKind.i64 0),
 T.v (Value.int IntKind.i64 0), T.sl false []],
 T.v (Value.bool false)]))
 (rowsK yGrade (List.map yGrade.enc a0.fst) s1.fst fun (y3 : TGrade) =>
 callK [(false, (Sy.int IntKind.i64).li)]
 (g_cloneI [T.sl false (List.map (Sy.int IntKind.i64).enc y3.snd.snd.snd)])
 fun (y4 : List Int) =>
 R
 (T.tup
 [T.agg
 [T.v (Value.string y3.fst), T.v (Value.int IntKind.i64 y3.snd.fst),
 T.v (Value.int IntKind.i64 y3.snd.snd.fst),
 T.sl false (List.map (Sy.int IntKind.i64).enc y4)],
 T.v (Value.bool true)])))
 (X0 (IntKind.i64.wrap (s1.fst + 1), ())))
 (R
 (T.tup
 [T.agg
 [T.v (Value.string { data := #[] }), T.v (Value.int IntKind.i64 0),
 T.v (Value.int IntKind.i64 0), T.sl false []],
 T.v (Value.bool false)])))
 (0, ())
theorem F_mGrade_eq (a0 : TMaterials) (a1 : ByteArray) (R : T → Prop) : sxTop stdC2 Tryz.prog E_mGrade H_mGrade 8 87 [encV true yMaterials a0, encV false Sy.str a1] R = F_mGrade a0 a1 R := by kernel_rfl
abbrev s_mGrade : Sh := [(true, yMaterials), (false, Sy.str)]
abbrev r_mGrade : Sh := [(true, yGrade), (false, Sy.bool)]
theorem r_mGrade_call (y : Sh.den r_mGrade) (K : Sh.den r_mGrade → Prop) : callK r_mGrade (some (Sh.enc r_mGrade y)) K = K y := callK_enc rfl y K

def sp_mGrade (x : TMaterials × ByteArray) : Option T := onlyM x.1 (Sh.enc [(true, yGrade), (false, .bool)] (found noGrade (gradeOf x.1 x.2)))
noncomputable def g_mGrade : List T → Option (T) := gS s_mGrade sp_mGrade
theorem g_mGrade_at {a0 : TMaterials} {a1 : ByteArray} : g_mGrade [encV true yMaterials a0, T.v (Value.string a1)] = sp_mGrade (a0, a1) := gS_enc (s := s_mGrade) rfl (a0, a1) rfl
theorem g_mGrade_op {u0 u1 u2} : g_mGrade [T.agg [T.sl false (List.map yGrade.enc u0), T.sl false (List.map ySection.enc u1)],
  T.v (Value.string u2)] = sp_mGrade ((u0, u1), u2) := gS_enc (s := s_mGrade) rfl ((u0, u1), u2) rfl
theorem of_mGrade (h : ∀ (a0 : TMaterials) (a1 : ByteArray) (r : T), sp_mGrade (a0, a1) = some r → BdSh s_mGrade (a0, a1) → F_mGrade a0 a1 (fun y => y = r)) : PureFn Tryz.prog 87 g_mGrade :=
  pureFn_S (E := E_mGrade) (Hs := H_mGrade) Eok_mGrade mixed' plain' (noHeap_of rfl) 8 ⟨_, _, Tryz.func87, rfl⟩ rfl fun x r h1 h2 => by
    obtain ⟨a0, a1⟩ := x
    rw [show Sh.encs s_mGrade (a0, a1) = [encV true yMaterials a0, encV false Sy.str a1] from rfl, F_mGrade_eq]
    exact h a0 a1 r h1 h2

theorem fn_mGrade : PureFn Tryz.prog 87 g_mGrade := of_mGrade fun m n r h hb => by
  obtain ⟨hok, rfl⟩ := onlyM_of h
  clear h
  simp only [okM, Bool.and_eq_true, decide_eq_true_eq] at hok
  unfold F_mGrade
  refine loopK_ix m.1.length (fun k s => s = ((k : Int), ()) ∧ (m.1.drop k).find? (fun s => decide (s.1 = n)) = gradeOf m n) ⟨rfl, rfl⟩ ?_
  rintro X k s hk ⟨rfl, hf⟩ hX
  dsimp only
  refine ifP (fun hlt => ?_) fun hge => ?_
  · rw [List.length_map] at hlt
    have hlt : k < m.1.length := by omega
    rw [find_drop hlt] at hf
    rw [rowsK_at (r := yGrade) hlt]
    refine ifP (fun hc => ?_) fun hc => ?_
    · rw [if_pos (decide_eq_true hc)] at hf
      refine ifP (fun h => by omega) fun _ => ?_
      rw [rowsK_at (r := yGrade) hlt]
      have hg : m.1[k].2.2.2.length ≤ 1000 := by
        have := List.all_eq_true.1 hok.2 _ (List.getElem_mem hlt)
        exact of_decide_eq_true this
      refine callK_some (s := [(false, .li (.int .i64))]) (y := m.1[k].2.2.2) ?_ ?_
      · rw [g_cloneI_at]
        unfold spCloneP spClone
        rw [show (decide (m.1[k].2.2.2.length * 8 ≤ 140737488355328) && decide (m.1[k].2.2.2.length ≤ 140737488355328)) = true by simp only [Bool.and_eq_true, decide_eq_true_eq]; omega]
        rfl
      · show _ = Sh.enc [(true, yGrade), (false, .bool)] (found noGrade (gradeOf m n))
        rw [← hf]; rfl
    · rw [if_neg (by simpa using hc)] at hf
      exact hX _ hlt ⟨by rw [next_w (by omega)], hf⟩
  · rw [List.length_map] at hge
    have : k = m.1.length := by omega
    subst this
    rw [List.drop_length] at hf
    show _ = Sh.enc [(true, yGrade), (false, .bool)] (found noGrade (gradeOf m n))
    rw [← hf]; rfl
def rolledB (m : TMaterials) (n : ByteArray) (t : Int) : Bool := match gradeOf m n with
  | some g => g.2.2.2.any fun x => decide (t = x)
  | none => false
set_option maxRecDepth 100000
noncomputable def E_mrolled : Env := Env.of [(87, .pure g_mGrade)]
def H_mrolled : FuncId → Hint := fun f => match f == 141 with | true => ⟨fun r => match r == 2 with | true => .inv [.val 8 false (.int .i64)] | false => .none, fun _ _ => none, fun _ => none⟩ | false => noHint
theorem Eok_mrolled : EnvOk Tryz.prog E_mrolled := EnvOk.cons (x := .pure g_mGrade) fn_mGrade (EnvOk.nil _)
def F_mrolled (a0 : TMaterials) (a1 : ByteArray) (a2 : Int) (R : T → Prop) : Prop :=
 callK [(true, yGrade), (false, Sy.bool)]
 (g_mGrade [encV true yMaterials a0, T.v (Value.string a1)])
 fun (y0 : TGrade × Bool) =>
 iteP y0.snd
 (loopK (Int × PUnit)
 (fun (X1 : Int × PUnit → Prop) (s2 : Int × PUnit) =>
 iteP (decide (s2.fst < (↑(List.map (Sy.int IntKind.i64).enc y0.fst.snd.snd.snd).length : Int)))
 (rowsK (Sy.int IntKind.i64) (List.map (Sy.int IntKind.i64).enc y0.fst.snd.snd.snd)
 s2.fst fun (y3 : Int) =>
 iteP (decide (a2 = y3)) (R (T.v (Value.bool (decide (0 ≤ s2.fst)))))
 (X1 (IntKind.i64.wrap (s2.fst + 1), ())))
 (R (T.v (Value.bool false))))
 (0, ()))
 (R (T.v (Value.bool false)))
theorem F_mrolled_eq (a0 : TMaterials) (a1 : ByteArray) (a2 : Int) (R : T → Prop) : sxTop stdC2 Tryz.prog E_mrolled H_mrolled 8 105 [encV true yMaterials a0, encV false Sy.str a1,
  encV false (Sy.int IntKind.i64) a2] R = F_mrolled a0 a1 a2 R := by kernel_rfl
abbrev s_mrolled : Sh := [(true, yMaterials), (false, Sy.str), (false, (Sy.int IntKind.i64))]
abbrev r_mrolled : Sh := [(false, Sy.bool)]
theorem r_mrolled_call (y : Sh.den r_mrolled) (K : Sh.den r_mrolled → Prop) : callK r_mrolled (some (Sh.enc r_mrolled y)) K = K y := callK_enc rfl y K

def sp_mrolled (x : TMaterials × ByteArray × Int) : Option T := onlyM x.1 (T.v (Value.bool (rolledB x.1 x.2.1 x.2.2)))
noncomputable def g_mrolled : List T → Option (T) := gS s_mrolled sp_mrolled
theorem g_mrolled_at {a0 : TMaterials} {a1 : ByteArray} {a2 : Int} : g_mrolled [encV true yMaterials a0, T.v (Value.string a1), T.v (Value.int IntKind.i64 a2)] = sp_mrolled (a0, a1, a2) := gS_enc (s := s_mrolled) rfl (a0, a1, a2) rfl
theorem g_mrolled_op {u0 u1 u2 u3} : g_mrolled [T.agg [T.sl false (List.map yGrade.enc u0), T.sl false (List.map ySection.enc u1)],
  T.v (Value.string u2), T.v (Value.int IntKind.i64 u3)] = sp_mrolled ((u0, u1), u2, u3) := gS_enc (s := s_mrolled) rfl ((u0, u1), u2, u3) rfl
theorem of_mrolled (h : ∀ (a0 : TMaterials) (a1 : ByteArray) (a2 : Int) (r : T), sp_mrolled (a0, a1, a2) = some r → BdSh s_mrolled (a0, a1, a2) → F_mrolled a0 a1 a2 (fun y => y = r)) : PureFn Tryz.prog 105 g_mrolled :=
  pureFn_S (E := E_mrolled) (Hs := H_mrolled) Eok_mrolled mixed' plain' (noHeap_of rfl) 8 ⟨_, _, Tryz.func105, rfl⟩ rfl fun x r h1 h2 => by
    obtain ⟨a0, a1, a2⟩ := x
    rw [show Sh.encs s_mrolled (a0, a1, a2) = [encV true yMaterials a0, encV false Sy.str a1,
  encV false (Sy.int IntKind.i64) a2] from rfl, F_mrolled_eq]
    exact h a0 a1 a2 r h1 h2

theorem g_mGrade_ok {m : TMaterials} (h : okM m = true) (n : ByteArray) : g_mGrade [encV true yMaterials m, T.v (Value.string n)] = some (Sh.enc [(true, yGrade), (false, .bool)] (found noGrade (gradeOf m n))) := (g_mGrade_at ..).trans (onlyM_ok _ h)
theorem fn_mrolled : PureFn Tryz.prog 105 g_mrolled := of_mrolled fun m n t r h hb => by
  obtain ⟨hok, rfl⟩ := onlyM_of h
  clear h
  unfold F_mrolled
  refine callK_some (s := [(true, yGrade), (false, .bool)]) (g_mGrade_ok hok n) ?_
  cases hg : gradeOf m n with
  | none =>
    show iteP false _ _
    rw [iteP_f]
    exact bres (by unfold rolledB; rw [hg])
  | some g =>
    show iteP true _ _
    rw [iteP_t]
    dsimp only [found]
    have hlen : g.2.2.2.length ≤ 1000 := by
      simp only [okM, Bool.and_eq_true, decide_eq_true_eq] at hok
      exact of_decide_eq_true (List.all_eq_true.1 hok.2 _ (List.mem_of_find?_eq_some hg))
    have w : rolledB m n t = g.2.2.2.any fun x => decide (t = x) := by unfold rolledB; rw [hg]
    refine loopK_ix g.2.2.2.length (fun k s => s = ((k : Int), ()) ∧ g.2.2.2.any (fun x => decide (t = x)) = (g.2.2.2.drop k).any fun x => decide (t = x)) ⟨rfl, by rw [List.drop_zero]⟩ ?_
    rintro X k s hk ⟨rfl, hf⟩ hX
    dsimp only
    refine ifP (fun hlt => ?_) fun hge => bres ?_
    · rw [List.length_map] at hlt
      have hlt : k < g.2.2.2.length := by omega
      rw [List.drop_eq_getElem_cons hlt, List.any_cons] at hf
      rw [rowsK_at (r := .int .i64) hlt]
      refine ifP (fun hc => bres ?_) fun hc => hX _ hlt ⟨by rw [next_w (by omega)], by rw [hf, decide_eq_false hc, Bool.false_or]⟩
      rw [w, hf, decide_eq_true hc, decide_eq_true (show 0 ≤ (k : Int) by omega)]; rfl
    · rw [List.length_map] at hge
      have : k = g.2.2.2.length := by omega
      subst this
      rw [w, hf, List.drop_length]; rfl
end Go.Pv
set_option linter.unusedSimpArgs false
set_option linter.unusedVariables false
set_option maxRecDepth 100000
namespace Go.Pv
open Go Go.Proofs
abbrev aKind (p : TPart) : Int := p.2.2.1
abbrev aNode (p : TPart) : ByteArray := p.2.2.2.1
abbrev aGrade (p : TPart) : ByteArray := p.2.2.2.2.1
abbrev aThick (p : TPart) : Int := p.2.2.2.2.2.1
abbrev aShape (p : TPart) : TShape := p.2.2.2.2.2.2.1
abbrev aSec (p : TPart) : ByteArray := p.2.2.2.2.2.2.2.1
abbrev aLen (p : TPart) : Int := p.2.2.2.2.2.2.2.2.1
abbrev aMass (p : TPart) : Int := p.2.2.2.2.2.2.2.2.2.1
abbrev aCen (p : TPart) : TVec := p.2.2.2.2.2.2.2.2.2.2.1
abbrev aAt (p : TPart) : TPlace := p.2.2.2.2.2.2.2.2.2.2.2
def shapeF (p : TPart) : Bool := !decide (aThick p = 0) || decide (0 < (aShape p).1.length + (aShape p).2.length)
def lenF (p : TPart) : Bool := !decide (aSec p = { data := #[] }) || !decide (aLen p = 0)
def massF (p : TPart) : Bool := !decide (aMass p = 0) || !(decide ((aCen p).1 = 0) && (decide ((aCen p).2.1 = 0) && decide ((aCen p).2.2 = 0)))
def spareB (p : TPart) : Bool := if aKind p = 1 then lenF p || massF p else if aKind p = 2 ∨ aKind p = 3 then shapeF p || massF p else !decide (aGrade p = { data := #[] }) || (shapeF p || lenF p)
set_option maxRecDepth 100000
noncomputable def E_pspare : Env := Env.of []
def H_pspare : FuncId → Hint := fun f => match f == 82 with | true => ⟨fun _ => .none, fun i j => match i == 1 && j == 1 with | true => some [.val 3 false .bool] | false => match i == 2 && j == 2 with | true => some [.val 4 false .bool] | false => match i == 3 && j == 3 with | true => some [.val 5 false .bool] | false => none, fun _ => none⟩ | false => noHint
theorem Eok_pspare : EnvOk Tryz.prog E_pspare := EnvOk.nil _
def F_pspare (a0 : TPart) (R : T → Prop) : Prop :=
 joinK (Bool × PUnit)
 (fun (X0 : Bool × PUnit → Prop) =>
 iteP (!decide (a0.snd.snd.snd.snd.snd.fst = 0)) (X0 (true, ()))
 (X0
 (decide
 (0 <
 IntKind.i64.wrap
 ((↑(List.map yPoint.enc a0.snd.snd.snd.snd.snd.snd.fst.fst).length : Int) +
 (↑(List.map yPoint.li.enc a0.snd.snd.snd.snd.snd.snd.fst.snd).length : Int))),
 ())))
 fun (s1 : Bool × PUnit) =>
 joinK (Bool × PUnit)
 (fun (X2 : Bool × PUnit → Prop) =>
 iteP (!decide (a0.snd.snd.snd.snd.snd.snd.snd.fst = { data := #[] })) (X2 (true, ()))
 (X2 (!decide (a0.snd.snd.snd.snd.snd.snd.snd.snd.fst = 0), ())))
 fun (s3 : Bool × PUnit) =>
 joinK (Bool × PUnit)
 (fun (X4 : Bool × PUnit → Prop) =>
 iteP (!decide (a0.snd.snd.snd.snd.snd.snd.snd.snd.snd.fst = 0)) (X4 (true, ()))
 (X4
 (!(decide (a0.snd.snd.snd.snd.snd.snd.snd.snd.snd.snd.fst.fst = 0) &&
 (decide (a0.snd.snd.snd.snd.snd.snd.snd.snd.snd.snd.fst.snd.fst = 0) &&
 (decide (a0.snd.snd.snd.snd.snd.snd.snd.snd.snd.snd.fst.snd.snd = 0) && true))),
 ())))
 fun (s5 : Bool × PUnit) =>
 iteP (decide (a0.snd.snd.fst = 1))
 (iteP s3.fst (R (T.v (Value.bool true))) (R (T.v (Value.bool s5.fst))))
 (iteP (decide (a0.snd.snd.fst = 2))
 (iteP s1.fst (R (T.v (Value.bool true))) (R (T.v (Value.bool s5.fst))))
 (iteP (decide (a0.snd.snd.fst = 3))
 (iteP s1.fst (R (T.v (Value.bool true))) (R (T.v (Value.bool s5.fst))))
 (iteP (decide (a0.snd.snd.fst = 4))
 (iteP (!decide (a0.snd.snd.snd.snd.fst = { data := #[] })) (R (T.v (Value.bool true)))
 (iteP s1.fst (R (T.v (Value.bool true))) (R (T.v (Value.bool s3.fst)))))
 (iteP (!decide (a0.snd.snd.snd.snd.fst = { data := #[] })) (R (T.v (Value.bool true)))
 (iteP s1.fst (R (T.v (Value.bool true))) (R (T.v (Value.bool s3.fst))))))))
theorem F_pspare_eq (a0 : TPart) (R : T → Prop) : sxTop stdC2 Tryz.prog E_pspare H_pspare 8 82 [encV true yPart a0] R = F_pspare a0 R := by kernel_rfl
abbrev s_pspare : Sh := [(true, yPart)]
abbrev r_pspare : Sh := [(false, Sy.bool)]
theorem r_pspare_call (y : Sh.den r_pspare) (K : Sh.den r_pspare → Prop) : callK r_pspare (some (Sh.enc r_pspare y)) K = K y := callK_enc rfl y K

def sp_pspare (p : TPart) : Option T := some (T.v (Value.bool (spareB p)))
noncomputable def g_pspare : List T → Option (T) := gS s_pspare sp_pspare
theorem g_pspare_at {a0 : TPart} : g_pspare [encV true yPart a0] = sp_pspare (a0) := gS_enc (s := s_pspare) rfl (a0) rfl
theorem g_pspare_op {u0 u1 u2 u3 u4 u5 u6 u7 u8 u9 u10 u11 u12 u13 u14 u15 u16 u17} : g_pspare [T.agg
    [T.v (Value.string u0), T.v (Value.int IntKind.i64 u1),
      T.v (Value.int IntKind.i64 u2), T.v (Value.string u3),
      T.v (Value.string u4),
      T.v (Value.int IntKind.i64 u5),
      T.sl false (List.map yPoint.enc u6),
      T.sl false (List.map yPoint.li.enc u7),
      T.v (Value.string u8),
      T.v (Value.int IntKind.i64 u9),
      T.v (Value.int IntKind.i64 u10),
      T.v (Value.int IntKind.i64 u11),
      T.v (Value.int IntKind.i64 u12),
      T.v (Value.int IntKind.i64 u13),
      T.v (Value.int IntKind.i64 u14),
      T.v (Value.int IntKind.i64 u15),
      T.v (Value.int IntKind.i64 u16),
      T.v (Value.int IntKind.i64 u17)]] = sp_pspare ((u0, (u1, (u2, (u3, (u4, (u5, ((u6, u7), (u8, (u9, (u10, ((u11, (u12, u13)), ((u14, (u15, u16)), u17))))))))))))) := gS_enc (s := s_pspare) rfl ((u0, (u1, (u2, (u3, (u4, (u5, ((u6, u7), (u8, (u9, (u10, ((u11, (u12, u13)), ((u14, (u15, u16)), u17))))))))))))) rfl
theorem of_pspare (h : ∀ (a0 : TPart) (r : T), sp_pspare (a0) = some r → BdSh s_pspare (a0) → F_pspare a0 (fun y => y = r)) : PureFn Tryz.prog 82 g_pspare :=
  pureFn_S (E := E_pspare) (Hs := H_pspare) Eok_pspare mixed' plain' (noHeap_of rfl) 8 ⟨_, _, Tryz.func82, rfl⟩ rfl fun x r h1 h2 => by
    let a0 := x
    rw [show Sh.encs s_pspare (a0) = [encV true yPart a0] from rfl, F_pspare_eq]
    exact h a0 r h1 h2

theorem or_if {a b : Bool} {n : Bool} {A : Prop} (h : n = (a || b)) (hA : T.v (Value.bool (a || b)) = T.v (Value.bool n) → A) : A := hA (by rw [h])
theorem ite_or {a b : Bool} {n : Bool} (h : n = (a || b)) : iteP a (T.v (Value.bool true) = T.v (Value.bool n)) (T.v (Value.bool b) = T.v (Value.bool n)) := by
  subst h; cases a <;> rfl
theorem fn_pspare : PureFn Tryz.prog 82 g_pspare := of_pspare fun p r h hb => by
  have b1 : (aShape p).1.length ≤ 2 ^ 47 := hb.2.2.2.2.2.2.1.1.1
  have b2 : (aShape p).2.length ≤ 2 ^ 47 := hb.2.2.2.2.2.2.1.2.1
  cases h
  unfold F_pspare
  have j : ∀ {a b : Bool} {K : Bool × PUnit → Prop}, K (a || b, ()) → joinK (Bool × PUnit) (fun (X : Bool × PUnit → Prop) => iteP a (X (true, ())) (X (b, ()))) K := fun {a b K} hK => by
    rw [joinK_def]; cases a <;> exact hK
  have e1 : decide (0 < IntKind.i64.wrap (((List.map yPoint.enc (aShape p).1).length : Int) + ((List.map yPoint.li.enc (aShape p).2).length : Int))) = decide (0 < (aShape p).1.length + (aShape p).2.length) := by
    rw [List.length_map, List.length_map, wrap_id _ (by omega) (by omega)]
    exact decide_eq_decide.2 (by omega)
  refine j ?_
  refine j ?_
  refine j ?_
  dsimp only
  rw [e1, Bool.and_true]
  refine ifP (fun h => ite_or (by unfold spareB; rw [if_pos h]; rfl)) fun k1 => ?_
  refine ifP (fun h => ite_or (by unfold spareB; rw [if_neg k1, if_pos (.inl h)]; rfl)) fun k2 => ?_
  refine ifP (fun h => ite_or (by unfold spareB; rw [if_neg k1, if_pos (.inr h)]; rfl)) fun k3 => ?_
  have w : spareB p = (!decide (aGrade p = { data := #[] }) || (shapeF p || lenF p)) := by
    unfold spareB; rw [if_neg k1, if_neg]; rintro (h | h)
    · exact k2 h
    · exact k3 h
  have fin : iteP (!decide (aGrade p = { data := #[] })) (T.v (Value.bool true) = T.v (Value.bool (spareB p))) (iteP (shapeF p) (T.v (Value.bool true) = T.v (Value.bool (spareB p))) (T.v (Value.bool (lenF p)) = T.v (Value.bool (spareB p)))) := by
    rw [w]
    cases (!decide (aGrade p = { data := #[] })) with
    | true => rfl
    | false => exact ite_or rfl
  exact ifP (fun _ => fin) fun _ => fin
def secOk (m : TMaterials) (n : ByteArray) : Bool := match secOf m n with
  | some s => decide (1 ≤ s.2.1) && decide (s.2.1 ≤ 1000000) && (decide (1 ≤ s.2.2.1) && decide (s.2.2.1 ≤ 2000))
  | none => false
def madeB (p : TPart) (m : TMaterials) : Bool := if aKind p = 4 then true else match gradeOf m (aGrade p) with
  | none => false
  | some g => decide (1000 ≤ g.2.1) && decide (g.2.1 ≤ 20000) && (if aKind p = 1 then decide (1 ≤ aThick p) && decide (aThick p ≤ 120) && rolledB m (aGrade p) (aThick p) else secOk m (aSec p))
set_option maxRecDepth 100000
noncomputable def E_pmade : Env := Env.of [(87, .pure g_mGrade), (54, .pure g_section), (105, .pure g_mrolled)]
def H_pmade : FuncId → Hint := fun _ => noHint
theorem Eok_pmade : EnvOk Tryz.prog E_pmade := EnvOk.cons (x := .pure g_mGrade) fn_mGrade (EnvOk.cons (x := .pure g_section) fn_section (EnvOk.cons (x := .pure g_mrolled) fn_mrolled (EnvOk.nil _)))
def F_pmade (a0 : TPart) (a1 : TMaterials) (R : T → Prop) : Prop :=
 iteP (decide (a0.snd.snd.fst = 1))
 (callK [(true, yGrade), (false, Sy.bool)]
 (g_mGrade [encV true yMaterials a1, T.v (Value.string a0.snd.snd.snd.snd.fst)])
 fun (y0 : TGrade × Bool) =>
 iteP (!y0.snd) (R (T.v (Value.bool false)))
 (iteP (decide (1000 ≤ y0.fst.snd.fst))
 (iteP (!decide (y0.fst.snd.fst ≤ 20000)) (R (T.v (Value.bool false)))
 (iteP (decide (a0.snd.snd.fst = 1))
 (iteP (decide (1 ≤ a0.snd.snd.snd.snd.snd.fst))
 (iteP (decide (a0.snd.snd.snd.snd.snd.fst ≤ 120))
 (callK [(false, Sy.bool)]
 (g_mrolled
 [encV true yMaterials a1, T.v (Value.string a0.snd.snd.snd.snd.fst),
 T.v (Value.int IntKind.i64 a0.snd.snd.snd.snd.snd.fst)])
 fun (y1 : Bool) => R (T.v (Value.bool y1)))
 (R (T.v (Value.bool false))))
 (R (T.v (Value.bool false))))
 (iteP (decide (a0.snd.snd.fst = 2))
 (callK [(true, ySection), (false, Sy.bool)]
 (g_section
 [encV true yMaterials a1, T.v (Value.string a0.snd.snd.snd.snd.snd.snd.snd.fst)])
 fun (y2 : TSection × Bool) =>
 iteP y2.snd
 (iteP (decide (1 ≤ y2.fst.snd.fst))
 (iteP (decide (y2.fst.snd.fst ≤ 1000000))
 (iteP (decide (1 ≤ y2.fst.snd.snd.fst))
 (R (T.v (Value.bool (decide (y2.fst.snd.snd.fst ≤ 2000)))))
 (R (T.v (Value.bool false))))
 (R (T.v (Value.bool false))))
 (R (T.v (Value.bool false))))
 (R (T.v (Value.bool false))))
 (iteP (decide (a0.snd.snd.fst = 3))
 (callK [(true, ySection), (false, Sy.bool)]
 (g_section
 [encV true yMaterials a1,
 T.v (Value.string a0.snd.snd.snd.snd.snd.snd.snd.fst)])
 fun (y3 : TSection × Bool) =>
 iteP y3.snd
 (iteP (decide (1 ≤ y3.fst.snd.fst))
 (iteP (decide (y3.fst.snd.fst ≤ 1000000))
 (iteP (decide (1 ≤ y3.fst.snd.snd.fst))
 (R (T.v (Value.bool (decide (y3.fst.snd.snd.fst ≤ 2000)))))
 (R (T.v (Value.bool false))))
 (R (T.v (Value.bool false))))
 (R (T.v (Value.bool false))))
 (R (T.v (Value.bool false))))
 (iteP (decide (a0.snd.snd.fst = 4))
 (callK [(true, ySection), (false, Sy.bool)]
 (g_section
 [encV true yMaterials a1,
 T.v (Value.string a0.snd.snd.snd.snd.snd.snd.snd.fst)])
 fun (y4 : TSection × Bool) =>
 iteP y4.snd
 (iteP (decide (1 ≤ y4.fst.snd.fst))
 (iteP (decide (y4.fst.snd.fst ≤ 1000000))
 (iteP (decide (1 ≤ y4.fst.snd.snd.fst))
 (R (T.v (Value.bool (decide (y4.fst.snd.snd.fst ≤ 2000)))))
 (R (T.v (Value.bool false))))
 (R (T.v (Value.bool false))))
 (R (T.v (Value.bool false))))
 (R (T.v (Value.bool false))))
 (callK [(true, ySection), (false, Sy.bool)]
 (g_section
 [encV true yMaterials a1,
 T.v (Value.string a0.snd.snd.snd.snd.snd.snd.snd.fst)])
 fun (y5 : TSection × Bool) =>
 iteP y5.snd
 (iteP (decide (1 ≤ y5.fst.snd.fst))
 (iteP (decide (y5.fst.snd.fst ≤ 1000000))
 (iteP (decide (1 ≤ y5.fst.snd.snd.fst))
 (R (T.v (Value.bool (decide (y5.fst.snd.snd.fst ≤ 2000)))))
 (R (T.v (Value.bool false))))
 (R (T.v (Value.bool false))))
 (R (T.v (Value.bool false))))
 (R (T.v (Value.bool false)))))))))
 (R (T.v (Value.bool false)))))
 (iteP (decide (a0.snd.snd.fst = 2))
 (callK [(true, yGrade), (false, Sy.bool)]
 (g_mGrade [encV true yMaterials a1, T.v (Value.string a0.snd.snd.snd.snd.fst)])
 fun (y6 : TGrade × Bool) =>
 iteP (!y6.snd) (R (T.v (Value.bool false)))
 (iteP (decide (1000 ≤ y6.fst.snd.fst))
 (iteP (!decide (y6.fst.snd.fst ≤ 20000)) (R (T.v (Value.bool false)))
 (iteP (decide (a0.snd.snd.fst = 1))
 (iteP (decide (1 ≤ a0.snd.snd.snd.snd.snd.fst))
 (iteP (decide (a0.snd.snd.snd.snd.snd.fst ≤ 120))
 (callK [(false, Sy.bool)]
 (g_mrolled
 [encV true yMaterials a1, T.v (Value.string a0.snd.snd.snd.snd.fst),
 T.v (Value.int IntKind.i64 a0.snd.snd.snd.snd.snd.fst)])
 fun (y7 : Bool) => R (T.v (Value.bool y7)))
 (R (T.v (Value.bool false))))
 (R (T.v (Value.bool false))))
 (iteP (decide (a0.snd.snd.fst = 2))
 (callK [(true, ySection), (false, Sy.bool)]
 (g_section
 [encV true yMaterials a1,
 T.v (Value.string a0.snd.snd.snd.snd.snd.snd.snd.fst)])
 fun (y8 : TSection × Bool) =>
 iteP y8.snd
 (iteP (decide (1 ≤ y8.fst.snd.fst))
 (iteP (decide (y8.fst.snd.fst ≤ 1000000))
 (iteP (decide (1 ≤ y8.fst.snd.snd.fst))
 (R (T.v (Value.bool (decide (y8.fst.snd.snd.fst ≤ 2000)))))
 (R (T.v (Value.bool false))))
 (R (T.v (Value.bool false))))
 (R (T.v (Value.bool false))))
 (R (T.v (Value.bool false))))
 (iteP (decide (a0.snd.snd.fst = 3))
 (callK [(true, ySection), (false, Sy.bool)]
 (g_section
 [encV true yMaterials a1,
 T.v (Value.string a0.snd.snd.snd.snd.snd.snd.snd.fst)])
 fun (y9 : TSection × Bool) =>
 iteP y9.snd
 (iteP (decide (1 ≤ y9.fst.snd.fst))
 (iteP (decide (y9.fst.snd.fst ≤ 1000000))
 (iteP (decide (1 ≤ y9.fst.snd.snd.fst))
 (R (T.v (Value.bool (decide (y9.fst.snd.snd.fst ≤ 2000)))))
 (R (T.v (Value.bool false))))
 (R (T.v (Value.bool false))))
 (R (T.v (Value.bool false))))
 (R (T.v (Value.bool false))))
 (iteP (decide (a0.snd.snd.fst = 4))
 (callK [(true, ySection), (false, Sy.bool)]
 (g_section
 [encV true yMaterials a1,
 T.v (Value.string a0.snd.snd.snd.snd.snd.snd.snd.fst)])
 fun (y10 : TSection × Bool) =>
 iteP y10.snd
 (iteP (decide (1 ≤ y10.fst.snd.fst))
 (iteP (decide (y10.fst.snd.fst ≤ 1000000))
 (iteP (decide (1 ≤ y10.fst.snd.snd.fst))
 (R (T.v (Value.bool (decide (y10.fst.snd.snd.fst ≤ 2000)))))
 (R (T.v (Value.bool false))))
 (R (T.v (Value.bool false))))
 (R (T.v (Value.bool false))))
 (R (T.v (Value.bool false))))
 (callK [(true, ySection), (false, Sy.bool)]
 (g_section
 [encV true yMaterials a1,
 T.v (Value.string a0.snd.snd.snd.snd.snd.snd.snd.fst)])
 fun (y11 : TSection × Bool) =>
 iteP y11.snd
 (iteP (decide (1 ≤ y11.fst.snd.fst))
 (iteP (decide (y11.fst.snd.fst ≤ 1000000))
 (iteP (decide (1 ≤ y11.fst.snd.snd.fst))
 (R (T.v (Value.bool (decide (y11.fst.snd.snd.fst ≤ 2000)))))
 (R (T.v (Value.bool false))))
 (R (T.v (Value.bool false))))
 (R (T.v (Value.bool false))))
 (R (T.v (Value.bool false)))))))))
 (R (T.v (Value.bool false)))))
 (iteP (decide (a0.snd.snd.fst = 3))
 (callK [(true, yGrade), (false, Sy.bool)]
 (g_mGrade [encV true yMaterials a1, T.v (Value.string a0.snd.snd.snd.snd.fst)])
 fun (y12 : TGrade × Bool) =>
 iteP (!y12.snd) (R (T.v (Value.bool false)))
 (iteP (decide (1000 ≤ y12.fst.snd.fst))
 (iteP (!decide (y12.fst.snd.fst ≤ 20000)) (R (T.v (Value.bool false)))
 (iteP (decide (a0.snd.snd.fst = 1))
 (iteP (decide (1 ≤ a0.snd.snd.snd.snd.snd.fst))
 (iteP (decide (a0.snd.snd.snd.snd.snd.fst ≤ 120))
 (callK [(false, Sy.bool)]
 (g_mrolled
 [encV true yMaterials a1, T.v (Value.string a0.snd.snd.snd.snd.fst),
 T.v (Value.int IntKind.i64 a0.snd.snd.snd.snd.snd.fst)])
 fun (y13 : Bool) => R (T.v (Value.bool y13)))
 (R (T.v (Value.bool false))))
 (R (T.v (Value.bool false))))
 (iteP (decide (a0.snd.snd.fst = 2))
 (callK [(true, ySection), (false, Sy.bool)]
 (g_section
 [encV true yMaterials a1,
 T.v (Value.string a0.snd.snd.snd.snd.snd.snd.snd.fst)])
 fun (y14 : TSection × Bool) =>
 iteP y14.snd
 (iteP (decide (1 ≤ y14.fst.snd.fst))
 (iteP (decide (y14.fst.snd.fst ≤ 1000000))
 (iteP (decide (1 ≤ y14.fst.snd.snd.fst))
 (R (T.v (Value.bool (decide (y14.fst.snd.snd.fst ≤ 2000)))))
 (R (T.v (Value.bool false))))
 (R (T.v (Value.bool false))))
 (R (T.v (Value.bool false))))
 (R (T.v (Value.bool false))))
 (iteP (decide (a0.snd.snd.fst = 3))
 (callK [(true, ySection), (false, Sy.bool)]
 (g_section
 [encV true yMaterials a1,
 T.v (Value.string a0.snd.snd.snd.snd.snd.snd.snd.fst)])
 fun (y15 : TSection × Bool) =>
 iteP y15.snd
 (iteP (decide (1 ≤ y15.fst.snd.fst))
 (iteP (decide (y15.fst.snd.fst ≤ 1000000))
 (iteP (decide (1 ≤ y15.fst.snd.snd.fst))
 (R (T.v (Value.bool (decide (y15.fst.snd.snd.fst ≤ 2000)))))
 (R (T.v (Value.bool false))))
 (R (T.v (Value.bool false))))
 (R (T.v (Value.bool false))))
 (R (T.v (Value.bool false))))
 (iteP (decide (a0.snd.snd.fst = 4))
 (callK [(true, ySection), (false, Sy.bool)]
 (g_section
 [encV true yMaterials a1,
 T.v (Value.string a0.snd.snd.snd.snd.snd.snd.snd.fst)])
 fun (y16 : TSection × Bool) =>
 iteP y16.snd
 (iteP (decide (1 ≤ y16.fst.snd.fst))
 (iteP (decide (y16.fst.snd.fst ≤ 1000000))
 (iteP (decide (1 ≤ y16.fst.snd.snd.fst))
 (R (T.v (Value.bool (decide (y16.fst.snd.snd.fst ≤ 2000)))))
 (R (T.v (Value.bool false))))
 (R (T.v (Value.bool false))))
 (R (T.v (Value.bool false))))
 (R (T.v (Value.bool false))))
 (callK [(true, ySection), (false, Sy.bool)]
 (g_section
 [encV true yMaterials a1,
 T.v (Value.string a0.snd.snd.snd.snd.snd.snd.snd.fst)])
 fun (y17 : TSection × Bool) =>
 iteP y17.snd
 (iteP (decide (1 ≤ y17.fst.snd.fst))
 (iteP (decide (y17.fst.snd.fst ≤ 1000000))
 (iteP (decide (1 ≤ y17.fst.snd.snd.fst))
 (R (T.v (Value.bool (decide (y17.fst.snd.snd.fst ≤ 2000)))))
 (R (T.v (Value.bool false))))
 (R (T.v (Value.bool false))))
 (R (T.v (Value.bool false))))
 (R (T.v (Value.bool false)))))))))
 (R (T.v (Value.bool false)))))
 (iteP (decide (a0.snd.snd.fst = 4)) (R (T.v (Value.bool true)))
 (callK [(true, yGrade), (false, Sy.bool)]
 (g_mGrade [encV true yMaterials a1, T.v (Value.string a0.snd.snd.snd.snd.fst)])
 fun (y18 : TGrade × Bool) =>
 iteP (!y18.snd) (R (T.v (Value.bool false)))
 (iteP (decide (1000 ≤ y18.fst.snd.fst))
 (iteP (!decide (y18.fst.snd.fst ≤ 20000)) (R (T.v (Value.bool false)))
 (iteP (decide (a0.snd.snd.fst = 1))
 (iteP (decide (1 ≤ a0.snd.snd.snd.snd.snd.fst))
 (iteP (decide (a0.snd.snd.snd.snd.snd.fst ≤ 120))
 (callK [(false, Sy.bool)]
 (g_mrolled
 [encV true yMaterials a1, T.v (Value.string a0.snd.snd.snd.snd.fst),
 T.v (Value.int IntKind.i64 a0.snd.snd.snd.snd.snd.fst)])
 fun (y19 : Bool) => R (T.v (Value.bool y19)))
 (R (T.v (Value.bool false))))
 (R (T.v (Value.bool false))))
 (iteP (decide (a0.snd.snd.fst = 2))
 (callK [(true, ySection), (false, Sy.bool)]
 (g_section
 [encV true yMaterials a1,
 T.v (Value.string a0.snd.snd.snd.snd.snd.snd.snd.fst)])
 fun (y20 : TSection × Bool) =>
 iteP y20.snd
 (iteP (decide (1 ≤ y20.fst.snd.fst))
 (iteP (decide (y20.fst.snd.fst ≤ 1000000))
 (iteP (decide (1 ≤ y20.fst.snd.snd.fst))
 (R (T.v (Value.bool (decide (y20.fst.snd.snd.fst ≤ 2000)))))
 (R (T.v (Value.bool false))))
 (R (T.v (Value.bool false))))
 (R (T.v (Value.bool false))))
 (R (T.v (Value.bool false))))
 (iteP (decide (a0.snd.snd.fst = 3))
 (callK [(true, ySection), (false, Sy.bool)]
 (g_section
 [encV true yMaterials a1,
 T.v (Value.string a0.snd.snd.snd.snd.snd.snd.snd.fst)])
 fun (y21 : TSection × Bool) =>
 iteP y21.snd
 (iteP (decide (1 ≤ y21.fst.snd.fst))
 (iteP (decide (y21.fst.snd.fst ≤ 1000000))
 (iteP (decide (1 ≤ y21.fst.snd.snd.fst))
 (R (T.v (Value.bool (decide (y21.fst.snd.snd.fst ≤ 2000)))))
 (R (T.v (Value.bool false))))
 (R (T.v (Value.bool false))))
 (R (T.v (Value.bool false))))
 (R (T.v (Value.bool false))))
 (iteP (decide (a0.snd.snd.fst = 4))
 (callK [(true, ySection), (false, Sy.bool)]
 (g_section
 [encV true yMaterials a1,
 T.v (Value.string a0.snd.snd.snd.snd.snd.snd.snd.fst)])
 fun (y22 : TSection × Bool) =>
 iteP y22.snd
 (iteP (decide (1 ≤ y22.fst.snd.fst))
 (iteP (decide (y22.fst.snd.fst ≤ 1000000))
 (iteP (decide (1 ≤ y22.fst.snd.snd.fst))
 (R (T.v (Value.bool (decide (y22.fst.snd.snd.fst ≤ 2000)))))
 (R (T.v (Value.bool false))))
 (R (T.v (Value.bool false))))
 (R (T.v (Value.bool false))))
 (R (T.v (Value.bool false))))
 (callK [(true, ySection), (false, Sy.bool)]
 (g_section
 [encV true yMaterials a1,
 T.v (Value.string a0.snd.snd.snd.snd.snd.snd.snd.fst)])
 fun (y23 : TSection × Bool) =>
 iteP y23.snd
 (iteP (decide (1 ≤ y23.fst.snd.fst))
 (iteP (decide (y23.fst.snd.fst ≤ 1000000))
 (iteP (decide (1 ≤ y23.fst.snd.snd.fst))
 (R (T.v (Value.bool (decide (y23.fst.snd.snd.fst ≤ 2000)))))
 (R (T.v (Value.bool false))))
 (R (T.v (Value.bool false))))
 (R (T.v (Value.bool false))))
 (R (T.v (Value.bool false)))))))))
 (R (T.v (Value.bool false))))))))
theorem F_pmade_eq (a0 : TPart) (a1 : TMaterials) (R : T → Prop) : sxTop stdC2 Tryz.prog E_pmade H_pmade 8 83 [encV true yPart a0, encV true yMaterials a1] R = F_pmade a0 a1 R := by kernel_rfl
abbrev s_pmade : Sh := [(true, yPart), (true, yMaterials)]
abbrev r_pmade : Sh := [(false, Sy.bool)]
theorem r_pmade_call (y : Sh.den r_pmade) (K : Sh.den r_pmade → Prop) : callK r_pmade (some (Sh.enc r_pmade y)) K = K y := callK_enc rfl y K

def sp_pmade (x : TPart × TMaterials) : Option T := onlyM x.2 (T.v (Value.bool (madeB x.1 x.2)))
noncomputable def g_pmade : List T → Option (T) := gS s_pmade sp_pmade
theorem g_pmade_at {a0 : TPart} {a1 : TMaterials} : g_pmade [encV true yPart a0, encV true yMaterials a1] = sp_pmade (a0, a1) := gS_enc (s := s_pmade) rfl (a0, a1) rfl
theorem g_pmade_op {u0 u1 u2 u3 u4 u5 u6 u7 u8 u9 u10 u11 u12 u13 u14 u15 u16 u17 u18 u19} : g_pmade [T.agg
    [T.v (Value.string u0), T.v (Value.int IntKind.i64 u1),
      T.v (Value.int IntKind.i64 u2), T.v (Value.string u3),
      T.v (Value.string u4),
      T.v (Value.int IntKind.i64 u5),
      T.sl false (List.map yPoint.enc u6),
      T.sl false (List.map yPoint.li.enc u7),
      T.v (Value.string u8),
      T.v (Value.int IntKind.i64 u9),
      T.v (Value.int IntKind.i64 u10),
      T.v (Value.int IntKind.i64 u11),
      T.v (Value.int IntKind.i64 u12),
      T.v (Value.int IntKind.i64 u13),
      T.v (Value.int IntKind.i64 u14),
      T.v (Value.int IntKind.i64 u15),
      T.v (Value.int IntKind.i64 u16),
      T.v (Value.int IntKind.i64 u17)],
  T.agg [T.sl false (List.map yGrade.enc u18), T.sl false (List.map ySection.enc u19)]] = sp_pmade ((u0, (u1, (u2, (u3, (u4, (u5, ((u6, u7), (u8, (u9, (u10, ((u11, (u12, u13)), ((u14, (u15, u16)), u17)))))))))))), (u18, u19)) := gS_enc (s := s_pmade) rfl ((u0, (u1, (u2, (u3, (u4, (u5, ((u6, u7), (u8, (u9, (u10, ((u11, (u12, u13)), ((u14, (u15, u16)), u17)))))))))))), (u18, u19)) rfl
theorem of_pmade (h : ∀ (a0 : TPart) (a1 : TMaterials) (r : T), sp_pmade (a0, a1) = some r → BdSh s_pmade (a0, a1) → F_pmade a0 a1 (fun y => y = r)) : PureFn Tryz.prog 83 g_pmade :=
  pureFn_S (E := E_pmade) (Hs := H_pmade) Eok_pmade mixed' plain' (noHeap_of rfl) 8 ⟨_, _, Tryz.func83, rfl⟩ rfl fun x r h1 h2 => by
    obtain ⟨a0, a1⟩ := x
    rw [show Sh.encs s_pmade (a0, a1) = [encV true yPart a0, encV true yMaterials a1] from rfl, F_pmade_eq]
    exact h a0 a1 r h1 h2

theorem g_section_ok (m : TMaterials) (n : ByteArray) : g_section [encV true yMaterials m, T.v (Value.string n)] = some (Sh.enc [(true, ySection), (false, .bool)] (found noSec (secOf m n))) := g_section_at ..
theorem fn_pmade : PureFn Tryz.prog 83 g_pmade := of_pmade fun p m r h hb => by
  obtain ⟨hok, rfl⟩ := onlyM_of h
  replace hok : okM m = true := hok
  clear h
  have is : ∀ {n : Bool}, madeB p m = n → T.v (Value.bool n) = T.v (Value.bool (madeB p m)) := fun h => by rw [h]
  unfold F_pmade
  have sec : ∀ {g : TGrade}, gradeOf m (aGrade p) = some g → ¬ aKind p = 4 → ¬ aKind p = 1 → 1000 ≤ g.2.1 → g.2.1 ≤ 20000 →
      callK [(true, ySection), (false, Sy.bool)] (g_section [encV true yMaterials m, T.v (Value.string (aSec p))])
        fun (y2 : TSection × Bool) =>
        iteP y2.snd
          (iteP (decide (1 ≤ y2.fst.snd.fst))
            (iteP (decide (y2.fst.snd.fst ≤ 1000000))
              (iteP (decide (1 ≤ y2.fst.snd.snd.fst))
                (T.v (Value.bool (decide (y2.fst.snd.snd.fst ≤ 2000))) = T.v (Value.bool (madeB p m)))
                (T.v (Value.bool false) = T.v (Value.bool (madeB p m))))
              (T.v (Value.bool false) = T.v (Value.bool (madeB p m))))
            (T.v (Value.bool false) = T.v (Value.bool (madeB p m))))
          (T.v (Value.bool false) = T.v (Value.bool (madeB p m))) := by
    intro g hg k4 k1 d1 d2
    have w : madeB p m = secOk m (aSec p) := by
      unfold madeB; rw [if_neg k4, hg]; dsimp only; rw [decide_eq_true d1, decide_eq_true d2, if_neg k1]; rfl
    refine callK_some (s := [(true, ySection), (false, .bool)]) (g_section_ok m _) ?_
    cases hs : secOf m (aSec p) with
    | none =>
      show iteP false _ _
      rw [iteP_f]; exact is (by rw [w]; unfold secOk; rw [hs])
    | some s =>
      show iteP true _ _
      rw [iteP_t]
      dsimp only [found]
      have w2 : madeB p m = (decide (1 ≤ s.2.1) && decide (s.2.1 ≤ 1000000) && (decide (1 ≤ s.2.2.1) && decide (s.2.2.1 ≤ 2000))) := by rw [w]; unfold secOk; rw [hs]
      refine ifP (fun h1 => ifP (fun h2 => ifP (fun h3 => is ?_) fun h3 => is ?_) fun h2 => is ?_) fun h1 => is ?_
      · rw [w2, decide_eq_true h1, decide_eq_true h2, decide_eq_true h3]; rfl
      · rw [w2, decide_eq_true h1, decide_eq_true h2, decide_eq_false h3]; rfl
      · rw [w2, decide_eq_true h1, decide_eq_false h2]; rfl
      · rw [w2, decide_eq_false h1]; rfl
  have plate : ∀ {g : TGrade}, gradeOf m (aGrade p) = some g → aKind p = 1 → 1000 ≤ g.2.1 → g.2.1 ≤ 20000 →
      iteP (decide (1 ≤ aThick p)) (iteP (decide (aThick p ≤ 120)) (callK [(false, Sy.bool)] (g_mrolled [encV true yMaterials m, T.v (Value.string (aGrade p)), T.v (Value.int IntKind.i64 (aThick p))]) fun (y1 : Bool) => T.v (Value.bool y1) = T.v (Value.bool (madeB p m))) (T.v (Value.bool false) = T.v (Value.bool (madeB p m)))) (T.v (Value.bool false) = T.v (Value.bool (madeB p m))) := by
    intro g hg k1 d1 d2
    have w : madeB p m = (decide (1 ≤ aThick p) && decide (aThick p ≤ 120) && rolledB m (aGrade p) (aThick p)) := by
      unfold madeB; rw [if_neg (by omega), hg]; dsimp only; rw [decide_eq_true d1, decide_eq_true d2, if_pos k1]; rfl
    refine ifP (fun h1 => ifP (fun h2 => ?_) fun h2 => is ?_) fun h1 => is ?_
    · refine callK_some (s := [(false, .bool)]) (y := rolledB m (aGrade p) (aThick p)) ((g_mrolled_at ..).trans (onlyM_ok _ hok)) (is ?_)
      rw [w, decide_eq_true h1, decide_eq_true h2]; rfl
    · rw [w, decide_eq_true h1, decide_eq_false h2]; rfl
    · rw [w, decide_eq_false h1]; rfl
  by_cases k4 : p.2.2.1 = 4
  · have w : madeB p m = true := by unfold madeB; rw [if_pos k4]
    repeat' first
      | (exfalso; omega)
      | exact is w
      | refine ifP (fun h => ?_) (fun h => ?_)
  · have hnone : gradeOf m (aGrade p) = none → madeB p m = false := fun h => by unfold madeB; rw [if_neg k4, h]
    have dens : ∀ {g : TGrade}, gradeOf m (aGrade p) = some g → ¬ (1000 ≤ g.2.1 ∧ g.2.1 ≤ 20000) → madeB p m = false := fun {g} hg h => by
      unfold madeB; rw [if_neg k4, hg]; dsimp only
      by_cases h1 : 1000 ≤ g.2.1
      · rw [decide_eq_false (show ¬ g.2.1 ≤ 20000 by omega), Bool.and_false, Bool.false_and]
      · rw [decide_eq_false h1, Bool.false_and, Bool.false_and]
    have call : ∀ {K : TGrade × Bool → Prop}, (gradeOf m (aGrade p) = none → K (noGrade, false)) → (∀ g, gradeOf m (aGrade p) = some g → K (g, true)) → callK [(true, yGrade), (false, Sy.bool)] (g_mGrade [encV true yMaterials m, T.v (Value.string p.2.2.2.2.1)]) K := fun {K} h1 h2 => by
      refine callK_some (s := [(true, yGrade), (false, .bool)]) (g_mGrade_ok hok _) ?_
      cases hg : gradeOf m (aGrade p) with
      | none => exact h1 hg
      | some g => exact h2 g hg
    have body : ∀ {K : TGrade × Bool → Prop}, (∀ g, gradeOf m (aGrade p) = some g → 1000 ≤ g.2.1 → g.2.1 ≤ 20000 → K (g, true)) → callK [(true, yGrade), (false, Sy.bool)] (g_mGrade [encV true yMaterials m, T.v (Value.string p.2.2.2.2.1)]) fun (y0 : TGrade × Bool) => iteP (!y0.snd) (T.v (Value.bool false) = T.v (Value.bool (madeB p m))) (iteP (decide (1000 ≤ y0.fst.snd.fst)) (iteP (!decide (y0.fst.snd.fst ≤ 20000)) (T.v (Value.bool false) = T.v (Value.bool (madeB p m))) (K y0)) (T.v (Value.bool false) = T.v (Value.bool (madeB p m)))) := fun {K} hK => by
      refine call (fun hn => ?_) fun g hg => ?_
      · show iteP true _ _
        rw [iteP_t]; exact is (hnone hn)
      · show iteP false _ _
        rw [iteP_f]
        exact ifP (fun d1 => ifQ (fun d2 => is (dens hg (fun h => d2 h.2))) fun d2 => hK g hg d1 d2) fun d1 => is (dens hg (fun h => d1 h.1))
    refine ifP (fun h => body fun g hg d1 d2 => ?_) fun h1 => ifP (fun h => body fun g hg d1 d2 => ?_) fun h2 => ifP (fun h => body fun g hg d1 d2 => ?_) fun h3 => ifP (fun h => absurd h k4) fun _ => body fun g hg d1 d2 => ?_
    all_goals
      repeat' first
        | (exfalso; omega)
        | exact plate hg (by assumption) d1 d2
        | exact sec hg k4 (by assumption) d1 d2
        | exact sec hg k4 (by intro h'; have h'' : p.2.2.1 = 1 := h'; omega) d1 d2
        | refine ifP (fun h => ?_) (fun h => ?_)
/-! ### Check -/
def partE (p : TPart) (m : TMaterials) : Int := if isId p.1 = false ∨ isId (aNode p) = false then 6 else if ¬ (1 ≤ p.2.1 ∧ p.2.1 ≤ 1000) then 9 else if ¬ (aKind p = 1 ∨ aKind p = 2 ∨ aKind p = 3 ∨ aKind p = 4) then 10 else if spareB p = true then 2 else if madeB p m = false then 23 else
  if aKind p = 1 ∧ ¬ regE (aShape p) = 0 then regE (aShape p) else if (aKind p = 2 ∨ aKind p = 3) ∧ ¬ (1 ≤ aLen p ∧ aLen p ≤ 32768) then 9 else if aKind p = 4 ∧ ¬ (1 ≤ aMass p ∧ aMass p ≤ 1099511627776 ∧ vecIn (aCen p) = true) then 9 else if placeB (aAt p) = false then 9 else 0
set_option maxRecDepth 100000
noncomputable def E_ptcheck : Env := Env.of [(34, .pure g_isId), (82, .pure g_pspare), (83, .pure g_pmade), (84, .pure g_rcheck), (86, .pure g_vvalid)]
def H_ptcheck : FuncId → Hint := fun _ => noHint
theorem Eok_ptcheck : EnvOk Tryz.prog E_ptcheck := EnvOk.cons (x := .pure g_isId) fn_isId (EnvOk.cons (x := .pure g_pspare) fn_pspare (EnvOk.cons (x := .pure g_pmade) fn_pmade (EnvOk.cons (x := .pure g_rcheck) fn_rcheck (EnvOk.cons (x := .pure g_vvalid) fn_vvalid (EnvOk.nil _)))))
def F_ptcheck (a0 : TPart) (a1 : TMaterials) (R : T → Prop) : Prop :=
 callK [(false, Sy.bool)] (g_isId [T.v (Value.string a0.fst)]) fun (y0 : Bool) =>
 iteP (!y0) (R (T.v (Value.int IntKind.i64 6)))
 (callK [(false, Sy.bool)] (g_isId [T.v (Value.string a0.snd.snd.snd.fst)])
 fun (y1 : Bool) =>
 iteP (!y1) (R (T.v (Value.int IntKind.i64 6)))
 (iteP (decide (1 ≤ a0.snd.fst))
 (iteP (!decide (a0.snd.fst ≤ 1000)) (R (T.v (Value.int IntKind.i64 9)))
 (iteP (decide (a0.snd.snd.fst = 1))
 (callK [(false, Sy.bool)] (g_pspare [encV true yPart a0]) fun (y2 : Bool) =>
 iteP y2 (R (T.v (Value.int IntKind.i64 2)))
 (callK [(false, Sy.bool)]
 (g_pmade [encV true yPart a0, encV true yMaterials a1])
 fun (y3 : Bool) =>
 iteP (!y3) (R (T.v (Value.int IntKind.i64 23)))
 (iteP (decide (a0.snd.snd.fst = 1))
 (callK [(false, Sy.int IntKind.i64)]
 (g_rcheck [encV true yShape a0.snd.snd.snd.snd.snd.snd.fst])
 fun (y4 : Int) =>
 iteP (!decide (y4 = 0)) (R (T.v (Value.int IntKind.i64 y4)))
 (callK [(false, Sy.bool)]
 (g_vvalid
 [encV true yPlace a0.snd.snd.snd.snd.snd.snd.snd.snd.snd.snd.snd])
 fun (y5 : Bool) =>
 iteP (!y5) (R (T.v (Value.int IntKind.i64 9)))
 (R (T.v (Value.int IntKind.i64 0)))))
 (iteP (decide (a0.snd.snd.fst = 2))
 (iteP (decide (1 ≤ a0.snd.snd.snd.snd.snd.snd.snd.snd.fst))
 (iteP (!decide (a0.snd.snd.snd.snd.snd.snd.snd.snd.fst ≤ 32768))
 (R (T.v (Value.int IntKind.i64 9)))
 (callK [(false, Sy.bool)]
 (g_vvalid
 [encV true yPlace a0.snd.snd.snd.snd.snd.snd.snd.snd.snd.snd.snd])
 fun (y6 : Bool) =>
 iteP (!y6) (R (T.v (Value.int IntKind.i64 9)))
 (R (T.v (Value.int IntKind.i64 0)))))
 (R (T.v (Value.int IntKind.i64 9))))
 (iteP (decide (a0.snd.snd.fst = 3))
 (iteP (decide (1 ≤ a0.snd.snd.snd.snd.snd.snd.snd.snd.fst))
 (iteP (!decide (a0.snd.snd.snd.snd.snd.snd.snd.snd.fst ≤ 32768))
 (R (T.v (Value.int IntKind.i64 9)))
 (callK [(false, Sy.bool)]
 (g_vvalid
 [encV true yPlace a0.snd.snd.snd.snd.snd.snd.snd.snd.snd.snd.snd])
 fun (y7 : Bool) =>
 iteP (!y7) (R (T.v (Value.int IntKind.i64 9)))
 (R (T.v (Value.int IntKind.i64 0)))))
 (R (T.v (Value.int IntKind.i64 9))))
 (iteP (decide (a0.snd.snd.fst = 4))
 (iteP (decide (1 ≤ a0.snd.snd.snd.snd.snd.snd.snd.snd.snd.fst))
 (iteP (!decide (a0.snd.snd.snd.snd.snd.snd.snd.snd.snd.fst ≤ 1099511627776))
 (R (T.v (Value.int IntKind.i64 9)))
 (callK [(false, Sy.bool)]
 (g_vvalid
 [T.agg
 [T.v
 (Value.int IntKind.i64
 a0.snd.snd.snd.snd.snd.snd.snd.snd.snd.snd.fst.fst),
 T.v
 (Value.int IntKind.i64
 a0.snd.snd.snd.snd.snd.snd.snd.snd.snd.snd.fst.snd.fst),
 T.v
 (Value.int IntKind.i64
 a0.snd.snd.snd.snd.snd.snd.snd.snd.snd.snd.fst.snd.snd),
 T.v (Value.int IntKind.i64 0)]])
 fun (y8 : Bool) =>
 iteP (!y8) (R (T.v (Value.int IntKind.i64 9)))
 (callK [(false, Sy.bool)]
 (g_vvalid
 [encV true yPlace a0.snd.snd.snd.snd.snd.snd.snd.snd.snd.snd.snd])
 fun (y9 : Bool) =>
 iteP (!y9) (R (T.v (Value.int IntKind.i64 9)))
 (R (T.v (Value.int IntKind.i64 0))))))
 (R (T.v (Value.int IntKind.i64 9))))
 (callK [(false, Sy.bool)]
 (g_vvalid
 [encV true yPlace a0.snd.snd.snd.snd.snd.snd.snd.snd.snd.snd.snd])
 fun (y10 : Bool) =>
 iteP (!y10) (R (T.v (Value.int IntKind.i64 9)))
 (R (T.v (Value.int IntKind.i64 0))))))))))
 (iteP (decide (a0.snd.snd.fst = 2))
 (callK [(false, Sy.bool)] (g_pspare [encV true yPart a0])
 fun (y11 : Bool) =>
 iteP y11 (R (T.v (Value.int IntKind.i64 2)))
 (callK [(false, Sy.bool)]
 (g_pmade [encV true yPart a0, encV true yMaterials a1])
 fun (y12 : Bool) =>
 iteP (!y12) (R (T.v (Value.int IntKind.i64 23)))
 (iteP (decide (a0.snd.snd.fst = 1))
 (callK [(false, Sy.int IntKind.i64)]
 (g_rcheck [encV true yShape a0.snd.snd.snd.snd.snd.snd.fst])
 fun (y13 : Int) =>
 iteP (!decide (y13 = 0)) (R (T.v (Value.int IntKind.i64 y13)))
 (callK [(false, Sy.bool)]
 (g_vvalid
 [encV true yPlace a0.snd.snd.snd.snd.snd.snd.snd.snd.snd.snd.snd])
 fun (y14 : Bool) =>
 iteP (!y14) (R (T.v (Value.int IntKind.i64 9)))
 (R (T.v (Value.int IntKind.i64 0)))))
 (iteP (decide (a0.snd.snd.fst = 2))
 (iteP (decide (1 ≤ a0.snd.snd.snd.snd.snd.snd.snd.snd.fst))
 (iteP (!decide (a0.snd.snd.snd.snd.snd.snd.snd.snd.fst ≤ 32768))
 (R (T.v (Value.int IntKind.i64 9)))
 (callK [(false, Sy.bool)]
 (g_vvalid
 [encV true yPlace a0.snd.snd.snd.snd.snd.snd.snd.snd.snd.snd.snd])
 fun (y15 : Bool) =>
 iteP (!y15) (R (T.v (Value.int IntKind.i64 9)))
 (R (T.v (Value.int IntKind.i64 0)))))
 (R (T.v (Value.int IntKind.i64 9))))
 (iteP (decide (a0.snd.snd.fst = 3))
 (iteP (decide (1 ≤ a0.snd.snd.snd.snd.snd.snd.snd.snd.fst))
 (iteP (!decide (a0.snd.snd.snd.snd.snd.snd.snd.snd.fst ≤ 32768))
 (R (T.v (Value.int IntKind.i64 9)))
 (callK [(false, Sy.bool)]
 (g_vvalid
 [encV true yPlace a0.snd.snd.snd.snd.snd.snd.snd.snd.snd.snd.snd])
 fun (y16 : Bool) =>
 iteP (!y16) (R (T.v (Value.int IntKind.i64 9)))
 (R (T.v (Value.int IntKind.i64 0)))))
 (R (T.v (Value.int IntKind.i64 9))))
 (iteP (decide (a0.snd.snd.fst = 4))
 (iteP (decide (1 ≤ a0.snd.snd.snd.snd.snd.snd.snd.snd.snd.fst))
 (iteP (!decide (a0.snd.snd.snd.snd.snd.snd.snd.snd.snd.fst ≤ 1099511627776))
 (R (T.v (Value.int IntKind.i64 9)))
 (callK [(false, Sy.bool)]
 (g_vvalid
 [T.agg
 [T.v
 (Value.int IntKind.i64
 a0.snd.snd.snd.snd.snd.snd.snd.snd.snd.snd.fst.fst),
 T.v
 (Value.int IntKind.i64
 a0.snd.snd.snd.snd.snd.snd.snd.snd.snd.snd.fst.snd.fst),
 T.v
 (Value.int IntKind.i64
 a0.snd.snd.snd.snd.snd.snd.snd.snd.snd.snd.fst.snd.snd),
 T.v (Value.int IntKind.i64 0)]])
 fun (y17 : Bool) =>
 iteP (!y17) (R (T.v (Value.int IntKind.i64 9)))
 (callK [(false, Sy.bool)]
 (g_vvalid
 [encV true yPlace
 a0.snd.snd.snd.snd.snd.snd.snd.snd.snd.snd.snd])
 fun (y18 : Bool) =>
 iteP (!y18) (R (T.v (Value.int IntKind.i64 9)))
 (R (T.v (Value.int IntKind.i64 0))))))
 (R (T.v (Value.int IntKind.i64 9))))
 (callK [(false, Sy.bool)]
 (g_vvalid
 [encV true yPlace a0.snd.snd.snd.snd.snd.snd.snd.snd.snd.snd.snd])
 fun (y19 : Bool) =>
 iteP (!y19) (R (T.v (Value.int IntKind.i64 9)))
 (R (T.v (Value.int IntKind.i64 0))))))))))
 (iteP (decide (a0.snd.snd.fst = 3))
 (callK [(false, Sy.bool)] (g_pspare [encV true yPart a0])
 fun (y20 : Bool) =>
 iteP y20 (R (T.v (Value.int IntKind.i64 2)))
 (callK [(false, Sy.bool)]
 (g_pmade [encV true yPart a0, encV true yMaterials a1])
 fun (y21 : Bool) =>
 iteP (!y21) (R (T.v (Value.int IntKind.i64 23)))
 (iteP (decide (a0.snd.snd.fst = 1))
 (callK [(false, Sy.int IntKind.i64)]
 (g_rcheck [encV true yShape a0.snd.snd.snd.snd.snd.snd.fst])
 fun (y22 : Int) =>
 iteP (!decide (y22 = 0)) (R (T.v (Value.int IntKind.i64 y22)))
 (callK [(false, Sy.bool)]
 (g_vvalid
 [encV true yPlace a0.snd.snd.snd.snd.snd.snd.snd.snd.snd.snd.snd])
 fun (y23 : Bool) =>
 iteP (!y23) (R (T.v (Value.int IntKind.i64 9)))
 (R (T.v (Value.int IntKind.i64 0)))))
 (iteP (decide (a0.snd.snd.fst = 2))
 (iteP (decide (1 ≤ a0.snd.snd.snd.snd.snd.snd.snd.snd.fst))
 (iteP (!decide (a0.snd.snd.snd.snd.snd.snd.snd.snd.fst ≤ 32768))
 (R (T.v (Value.int IntKind.i64 9)))
 (callK [(false, Sy.bool)]
 (g_vvalid
 [encV true yPlace a0.snd.snd.snd.snd.snd.snd.snd.snd.snd.snd.snd])
 fun (y24 : Bool) =>
 iteP (!y24) (R (T.v (Value.int IntKind.i64 9)))
 (R (T.v (Value.int IntKind.i64 0)))))
 (R (T.v (Value.int IntKind.i64 9))))
 (iteP (decide (a0.snd.snd.fst = 3))
 (iteP (decide (1 ≤ a0.snd.snd.snd.snd.snd.snd.snd.snd.fst))
 (iteP (!decide (a0.snd.snd.snd.snd.snd.snd.snd.snd.fst ≤ 32768))
 (R (T.v (Value.int IntKind.i64 9)))
 (callK [(false, Sy.bool)]
 (g_vvalid
 [encV true yPlace a0.snd.snd.snd.snd.snd.snd.snd.snd.snd.snd.snd])
 fun (y25 : Bool) =>
 iteP (!y25) (R (T.v (Value.int IntKind.i64 9)))
 (R (T.v (Value.int IntKind.i64 0)))))
 (R (T.v (Value.int IntKind.i64 9))))
 (iteP (decide (a0.snd.snd.fst = 4))
 (iteP (decide (1 ≤ a0.snd.snd.snd.snd.snd.snd.snd.snd.snd.fst))
 (iteP (!decide (a0.snd.snd.snd.snd.snd.snd.snd.snd.snd.fst ≤ 1099511627776))
 (R (T.v (Value.int IntKind.i64 9)))
 (callK [(false, Sy.bool)]
 (g_vvalid
 [T.agg
 [T.v
 (Value.int IntKind.i64
 a0.snd.snd.snd.snd.snd.snd.snd.snd.snd.snd.fst.fst),
 T.v
 (Value.int IntKind.i64
 a0.snd.snd.snd.snd.snd.snd.snd.snd.snd.snd.fst.snd.fst),
 T.v
 (Value.int IntKind.i64
 a0.snd.snd.snd.snd.snd.snd.snd.snd.snd.snd.fst.snd.snd),
 T.v (Value.int IntKind.i64 0)]])
 fun (y26 : Bool) =>
 iteP (!y26) (R (T.v (Value.int IntKind.i64 9)))
 (callK [(false, Sy.bool)]
 (g_vvalid
 [encV true yPlace
 a0.snd.snd.snd.snd.snd.snd.snd.snd.snd.snd.snd])
 fun (y27 : Bool) =>
 iteP (!y27) (R (T.v (Value.int IntKind.i64 9)))
 (R (T.v (Value.int IntKind.i64 0))))))
 (R (T.v (Value.int IntKind.i64 9))))
 (callK [(false, Sy.bool)]
 (g_vvalid
 [encV true yPlace a0.snd.snd.snd.snd.snd.snd.snd.snd.snd.snd.snd])
 fun (y28 : Bool) =>
 iteP (!y28) (R (T.v (Value.int IntKind.i64 9)))
 (R (T.v (Value.int IntKind.i64 0))))))))))
 (iteP (decide (a0.snd.snd.fst = 4))
 (callK [(false, Sy.bool)] (g_pspare [encV true yPart a0])
 fun (y29 : Bool) =>
 iteP y29 (R (T.v (Value.int IntKind.i64 2)))
 (callK [(false, Sy.bool)]
 (g_pmade [encV true yPart a0, encV true yMaterials a1])
 fun (y30 : Bool) =>
 iteP (!y30) (R (T.v (Value.int IntKind.i64 23)))
 (iteP (decide (a0.snd.snd.fst = 1))
 (callK [(false, Sy.int IntKind.i64)]
 (g_rcheck [encV true yShape a0.snd.snd.snd.snd.snd.snd.fst])
 fun (y31 : Int) =>
 iteP (!decide (y31 = 0)) (R (T.v (Value.int IntKind.i64 y31)))
 (callK [(false, Sy.bool)]
 (g_vvalid
 [encV true yPlace a0.snd.snd.snd.snd.snd.snd.snd.snd.snd.snd.snd])
 fun (y32 : Bool) =>
 iteP (!y32) (R (T.v (Value.int IntKind.i64 9)))
 (R (T.v (Value.int IntKind.i64 0)))))
 (iteP (decide (a0.snd.snd.fst = 2))
 (iteP (decide (1 ≤ a0.snd.snd.snd.snd.snd.snd.snd.snd.fst))
 (iteP (!decide (a0.snd.snd.snd.snd.snd.snd.snd.snd.fst ≤ 32768))
 (R (T.v (Value.int IntKind.i64 9)))
 (callK [(false, Sy.bool)]
 (g_vvalid
 [encV true yPlace a0.snd.snd.snd.snd.snd.snd.snd.snd.snd.snd.snd])
 fun (y33 : Bool) =>
 iteP (!y33) (R (T.v (Value.int IntKind.i64 9)))
 (R (T.v (Value.int IntKind.i64 0)))))
 (R (T.v (Value.int IntKind.i64 9))))
 (iteP (decide (a0.snd.snd.fst = 3))
 (iteP (decide (1 ≤ a0.snd.snd.snd.snd.snd.snd.snd.snd.fst))
 (iteP (!decide (a0.snd.snd.snd.snd.snd.snd.snd.snd.fst ≤ 32768))
 (R (T.v (Value.int IntKind.i64 9)))
 (callK [(false, Sy.bool)]
 (g_vvalid
 [encV true yPlace a0.snd.snd.snd.snd.snd.snd.snd.snd.snd.snd.snd])
 fun (y34 : Bool) =>
 iteP (!y34) (R (T.v (Value.int IntKind.i64 9)))
 (R (T.v (Value.int IntKind.i64 0)))))
 (R (T.v (Value.int IntKind.i64 9))))
 (iteP (decide (a0.snd.snd.fst = 4))
 (iteP (decide (1 ≤ a0.snd.snd.snd.snd.snd.snd.snd.snd.snd.fst))
 (iteP (!decide (a0.snd.snd.snd.snd.snd.snd.snd.snd.snd.fst ≤ 1099511627776))
 (R (T.v (Value.int IntKind.i64 9)))
 (callK [(false, Sy.bool)]
 (g_vvalid
 [T.agg
 [T.v
 (Value.int IntKind.i64
 a0.snd.snd.snd.snd.snd.snd.snd.snd.snd.snd.fst.fst),
 T.v
 (Value.int IntKind.i64
 a0.snd.snd.snd.snd.snd.snd.snd.snd.snd.snd.fst.snd.fst),
 T.v
 (Value.int IntKind.i64
 a0.snd.snd.snd.snd.snd.snd.snd.snd.snd.snd.fst.snd.snd),
 T.v (Value.int IntKind.i64 0)]])
 fun (y35 : Bool) =>
 iteP (!y35) (R (T.v (Value.int IntKind.i64 9)))
 (callK [(false, Sy.bool)]
 (g_vvalid
 [encV true yPlace
 a0.snd.snd.snd.snd.snd.snd.snd.snd.snd.snd.snd])
 fun (y36 : Bool) =>
 iteP (!y36) (R (T.v (Value.int IntKind.i64 9)))
 (R (T.v (Value.int IntKind.i64 0))))))
 (R (T.v (Value.int IntKind.i64 9))))
 (callK [(false, Sy.bool)]
 (g_vvalid
 [encV true yPlace a0.snd.snd.snd.snd.snd.snd.snd.snd.snd.snd.snd])
 fun (y37 : Bool) =>
 iteP (!y37) (R (T.v (Value.int IntKind.i64 9)))
 (R (T.v (Value.int IntKind.i64 0))))))))))
 (R (T.v (Value.int IntKind.i64 10))))))))
 (R (T.v (Value.int IntKind.i64 9)))))
theorem F_ptcheck_eq (a0 : TPart) (a1 : TMaterials) (R : T → Prop) : sxTop stdC2 Tryz.prog E_ptcheck H_ptcheck 8 68 [encV true yPart a0, encV true yMaterials a1] R = F_ptcheck a0 a1 R := by kernel_rfl
abbrev s_ptcheck : Sh := [(true, yPart), (true, yMaterials)]
abbrev r_ptcheck : Sh := [(false, Sy.int IntKind.i64)]
theorem r_ptcheck_call (y : Sh.den r_ptcheck) (K : Sh.den r_ptcheck → Prop) : callK r_ptcheck (some (Sh.enc r_ptcheck y)) K = K y := callK_enc rfl y K

def sp_ptcheck (x : TPart × TMaterials) : Option T := onlyM x.2 (T.v (Value.int .i64 (partE x.1 x.2)))
noncomputable def g_ptcheck : List T → Option (T) := gS s_ptcheck sp_ptcheck
theorem g_ptcheck_at {a0 : TPart} {a1 : TMaterials} : g_ptcheck [encV true yPart a0, encV true yMaterials a1] = sp_ptcheck (a0, a1) := gS_enc (s := s_ptcheck) rfl (a0, a1) rfl
theorem g_ptcheck_op {u0 u1 u2 u3 u4 u5 u6 u7 u8 u9 u10 u11 u12 u13 u14 u15 u16 u17 u18 u19} : g_ptcheck [T.agg
    [T.v (Value.string u0), T.v (Value.int IntKind.i64 u1),
      T.v (Value.int IntKind.i64 u2), T.v (Value.string u3),
      T.v (Value.string u4),
      T.v (Value.int IntKind.i64 u5),
      T.sl false (List.map yPoint.enc u6),
      T.sl false (List.map yPoint.li.enc u7),
      T.v (Value.string u8),
      T.v (Value.int IntKind.i64 u9),
      T.v (Value.int IntKind.i64 u10),
      T.v (Value.int IntKind.i64 u11),
      T.v (Value.int IntKind.i64 u12),
      T.v (Value.int IntKind.i64 u13),
      T.v (Value.int IntKind.i64 u14),
      T.v (Value.int IntKind.i64 u15),
      T.v (Value.int IntKind.i64 u16),
      T.v (Value.int IntKind.i64 u17)],
  T.agg [T.sl false (List.map yGrade.enc u18), T.sl false (List.map ySection.enc u19)]] = sp_ptcheck ((u0, (u1, (u2, (u3, (u4, (u5, ((u6, u7), (u8, (u9, (u10, ((u11, (u12, u13)), ((u14, (u15, u16)), u17)))))))))))), (u18, u19)) := gS_enc (s := s_ptcheck) rfl ((u0, (u1, (u2, (u3, (u4, (u5, ((u6, u7), (u8, (u9, (u10, ((u11, (u12, u13)), ((u14, (u15, u16)), u17)))))))))))), (u18, u19)) rfl
theorem of_ptcheck (h : ∀ (a0 : TPart) (a1 : TMaterials) (r : T), sp_ptcheck (a0, a1) = some r → BdSh s_ptcheck (a0, a1) → F_ptcheck a0 a1 (fun y => y = r)) : PureFn Tryz.prog 68 g_ptcheck :=
  pureFn_S (E := E_ptcheck) (Hs := H_ptcheck) Eok_ptcheck mixed' plain' (noHeap_of rfl) 8 ⟨_, _, Tryz.func68, rfl⟩ rfl fun x r h1 h2 => by
    obtain ⟨a0, a1⟩ := x
    rw [show Sh.encs s_ptcheck (a0, a1) = [encV true yPart a0, encV true yMaterials a1] from rfl, F_ptcheck_eq]
    exact h a0 a1 r h1 h2

theorem fn_ptcheck : PureFn Tryz.prog 68 g_ptcheck := of_ptcheck fun p m r h hb => by
  obtain ⟨hok, rfl⟩ := onlyM_of h
  replace hok : okM m = true := hok
  clear h hb
  have is : ∀ {n : Int}, partE p m = n → T.v (Value.int IntKind.i64 n) = T.v (Value.int IntKind.i64 (partE p m)) := fun h => by rw [h]
  unfold F_ptcheck
  rw [isId_call]
  refine ifNB (fun h => is (by unfold partE; rw [if_pos (.inl h)])) fun i1 => ?_
  rw [isId_call]
  refine ifNB (fun h => is (by unfold partE; rw [if_pos (.inr h)])) fun i2 => ?_
  have n1 : ¬ (isId p.1 = false ∨ isId (aNode p) = false) := by
    rintro (h | h)
    · rw [i1] at h; cases h
    · rw [show isId (aNode p) = true from i2] at h; cases h
  have r9 : ¬ (1 ≤ p.2.1 ∧ p.2.1 ≤ 1000) → T.v (Value.int IntKind.i64 9) = T.v (Value.int IntKind.i64 (partE p m)) := fun h => is (by unfold partE; rw [if_neg n1, if_pos h])
  refine ifP (fun v1 => ifQ (fun h => r9 (fun h2 => h h2.2)) fun v2 => ?_) fun h => r9 (fun h2 => h h2.1)
  have n2 : ¬ ¬ (1 ≤ p.2.1 ∧ p.2.1 ≤ 1000) := fun h => h ⟨v1, v2⟩
  have w1 : partE p m = if ¬ (aKind p = 1 ∨ aKind p = 2 ∨ aKind p = 3 ∨ aKind p = 4) then 10 else if spareB p = true then 2 else if madeB p m = false then 23 else if aKind p = 1 ∧ ¬ regE (aShape p) = 0 then regE (aShape p) else if (aKind p = 2 ∨ aKind p = 3) ∧ ¬ (1 ≤ aLen p ∧ aLen p ≤ 32768) then 9 else if aKind p = 4 ∧ ¬ (1 ≤ aMass p ∧ aMass p ≤ 1099511627776 ∧ vecIn (aCen p) = true) then 9 else if placeB (aAt p) = false then 9 else 0 := by
    unfold partE; rw [if_neg n1, if_neg n2]
  have spare : ∀ {K : Bool → Prop}, K (spareB p) → callK [(false, Sy.bool)] (g_pspare [encV true yPart p]) K := fun h => callK_some (s := [(false, .bool)]) (y := spareB p) (g_pspare_at ..) h
  have made : ∀ {K : Bool → Prop}, K (madeB p m) → callK [(false, Sy.bool)] (g_pmade [encV true yPart p, encV true yMaterials m]) K := fun h => callK_some (s := [(false, .bool)]) (y := madeB p m) ((g_pmade_at ..).trans (onlyM_ok _ hok)) h
  have place : ∀ {K : Bool → Prop}, K (placeB (aAt p)) → callK [(false, Sy.bool)] (g_vvalid [encV true yPlace (aAt p)]) K := fun h => callK_some (s := [(false, .bool)]) (y := placeB (aAt p)) (g_vvalid_at ..) h
  have near : ∀ {K : Bool → Prop}, K (vecIn (aCen p)) → callK [(false, Sy.bool)] (g_vvalid [encV true yPlace (aCen p, 0)]) K := fun {K} h => callK_some (s := [(false, .bool)]) (y := placeB (aCen p, 0)) (g_vvalid_at ..) (by
    rw [show placeB (aCen p, 0) = vecIn (aCen p) by unfold placeB; rw [show decide (((aCen p, (0 : Int)) : TPlace).2 = numV ((aCen p, (0 : Int)) : TPlace).2) = true from rfl, Bool.and_true]]; exact h)
  have reg : ∀ {K : Int → Prop}, K (regE (aShape p)) → callK [(false, Sy.int IntKind.i64)] (g_rcheck [encV true yShape (aShape p)]) K := fun h => callK_some (s := [(false, .int .i64)]) (g_rcheck_ok _) h
  repeat' first
    | (exfalso; omega)
    | refine spare ?_
    | refine made ?_
    | refine reg ?_
    | refine place ?_
    | refine near ?_
    | refine ifQ (fun h => ?_) (fun h => ?_)
    | refine ifP (fun h => ?_) (fun h => ?_)
    | refine ifNB (fun h => ?_) (fun h => ?_)
    | refine ifB (fun h => ?_) (fun h => ?_)
  all_goals (refine is ?_; clear spare made place near reg is r9; rw [w1]; clear w1 n1 n2 i1 i2; simp_all; try (intros; exfalso; simp only [aLen, aMass] at *; omega))
theorem g_ptcheck_ok {m : TMaterials} (h : okM m = true) (p : TPart) : g_ptcheck [encV true yPart p, encV true yMaterials m] = some (Sh.enc [(false, .int .i64)] (partE p m)) := (g_ptcheck_at ..).trans (onlyM_ok _ h)
/-! ### Mass -/
def gradeD (m : TMaterials) (n : ByteArray) : TGrade := (gradeOf m n).getD noGrade
def secD (m : TMaterials) (n : ByteArray) : TSection := (secOf m n).getD noSec
theorem found_D {α : Type} {no : α} {o : Option α} : (found no o).1 = o.getD no := by cases o <;> rfl
/-- As the program computes it. -/
def massW (p : TPart) (m : TMaterials) : Int := if aKind p = 1 then IntKind.i64.wrap ((IntKind.i64.wrap (IntKind.i64.wrap (regA (aShape p) * aThick p) * (gradeD m (aGrade p)).2.1)).tdiv 2000000) else if aKind p = 2 ∨ aKind p = 3 then IntKind.i64.wrap ((IntKind.i64.wrap (IntKind.i64.wrap ((secD m (aSec p)).2.1 * aLen p) * (gradeD m (aGrade p)).2.1)).tdiv 1000000) else aMass p
def massE (p : TPart) (m : TMaterials) : Int × Int := if partE p m = 0 then (massW p m, 0) else (0, partE p m)
set_option maxRecDepth 100000
noncomputable def E_ptmass : Env := Env.of [(68, .pure g_ptcheck), (87, .pure g_mGrade), (54, .pure g_section), (88, .pure g_rarea2)]
def H_ptmass : FuncId → Hint := fun _ => noHint
theorem Eok_ptmass : EnvOk Tryz.prog E_ptmass := EnvOk.cons (x := .pure g_ptcheck) fn_ptcheck (EnvOk.cons (x := .pure g_mGrade) fn_mGrade (EnvOk.cons (x := .pure g_section) fn_section (EnvOk.cons (x := .pure g_rarea2) fn_rarea2 (EnvOk.nil _))))
def F_ptmass (a0 : TPart) (a1 : TMaterials) (R : T → Prop) : Prop :=
 callK [(false, Sy.int IntKind.i64)]
 (g_ptcheck [encV true yPart a0, encV true yMaterials a1]) fun (y0 : Int) =>
 iteP (!decide (y0 = 0))
 (R (T.tup [T.v (Value.int IntKind.i64 0), T.v (Value.int IntKind.i64 y0)]))
 (callK [(true, yGrade), (false, Sy.bool)]
 (g_mGrade [encV true yMaterials a1, T.v (Value.string a0.snd.snd.snd.snd.fst)])
 fun (y1 : TGrade × Bool) =>
 callK [(true, ySection), (false, Sy.bool)]
 (g_section
 [encV true yMaterials a1, T.v (Value.string a0.snd.snd.snd.snd.snd.snd.snd.fst)])
 fun (y2 : TSection × Bool) =>
 iteP (decide (a0.snd.snd.fst = 1))
 (callK [(false, Sy.int IntKind.i64)]
 (g_rarea2 [encV true yShape a0.snd.snd.snd.snd.snd.snd.fst]) fun (y3 : Int) =>
 reqK true
 (R
 (T.tup
 [T.v
 (Value.int IntKind.i64
 (IntKind.i64.wrap
 ((IntKind.i64.wrap
 (IntKind.i64.wrap (y3 * a0.snd.snd.snd.snd.snd.fst) * y1.fst.snd.fst)).tdiv
 2000000))),
 T.v (Value.int IntKind.i64 0)])))
 (iteP (decide (a0.snd.snd.fst = 2))
 (reqK true
 (R
 (T.tup
 [T.v
 (Value.int IntKind.i64
 (IntKind.i64.wrap
 ((IntKind.i64.wrap
 (IntKind.i64.wrap (y2.fst.snd.fst * a0.snd.snd.snd.snd.snd.snd.snd.snd.fst) *
 y1.fst.snd.fst)).tdiv
 1000000))),
 T.v (Value.int IntKind.i64 0)])))
 (iteP (decide (a0.snd.snd.fst = 3))
 (reqK true
 (R
 (T.tup
 [T.v
 (Value.int IntKind.i64
 (IntKind.i64.wrap
 ((IntKind.i64.wrap
 (IntKind.i64.wrap (y2.fst.snd.fst * a0.snd.snd.snd.snd.snd.snd.snd.snd.fst) *
 y1.fst.snd.fst)).tdiv
 1000000))),
 T.v (Value.int IntKind.i64 0)])))
 (iteP (decide (a0.snd.snd.fst = 4))
 (R
 (T.tup
 [T.v (Value.int IntKind.i64 a0.snd.snd.snd.snd.snd.snd.snd.snd.snd.fst),
 T.v (Value.int IntKind.i64 0)]))
 (R
 (T.tup
 [T.v (Value.int IntKind.i64 a0.snd.snd.snd.snd.snd.snd.snd.snd.snd.fst),
 T.v (Value.int IntKind.i64 0)]))))))
theorem F_ptmass_eq (a0 : TPart) (a1 : TMaterials) (R : T → Prop) : sxTop stdC2 Tryz.prog E_ptmass H_ptmass 8 69 [encV true yPart a0, encV true yMaterials a1] R = F_ptmass a0 a1 R := by kernel_rfl
abbrev s_ptmass : Sh := [(true, yPart), (true, yMaterials)]
abbrev r_ptmass : Sh := [(false, Sy.int IntKind.i64), (false, Sy.int IntKind.i64)]
theorem r_ptmass_call (y : Sh.den r_ptmass) (K : Sh.den r_ptmass → Prop) : callK r_ptmass (some (Sh.enc r_ptmass y)) K = K y := callK_enc rfl y K

def sp_ptmass (x : TPart × TMaterials) : Option T := onlyM x.2 (Sh.enc r_ptmass (massE x.1 x.2))
noncomputable def g_ptmass : List T → Option (T) := gS s_ptmass sp_ptmass
theorem g_ptmass_at {a0 : TPart} {a1 : TMaterials} : g_ptmass [encV true yPart a0, encV true yMaterials a1] = sp_ptmass (a0, a1) := gS_enc (s := s_ptmass) rfl (a0, a1) rfl
theorem g_ptmass_op {u0 u1 u2 u3 u4 u5 u6 u7 u8 u9 u10 u11 u12 u13 u14 u15 u16 u17 u18 u19} : g_ptmass [T.agg
    [T.v (Value.string u0), T.v (Value.int IntKind.i64 u1),
      T.v (Value.int IntKind.i64 u2), T.v (Value.string u3),
      T.v (Value.string u4),
      T.v (Value.int IntKind.i64 u5),
      T.sl false (List.map yPoint.enc u6),
      T.sl false (List.map yPoint.li.enc u7),
      T.v (Value.string u8),
      T.v (Value.int IntKind.i64 u9),
      T.v (Value.int IntKind.i64 u10),
      T.v (Value.int IntKind.i64 u11),
      T.v (Value.int IntKind.i64 u12),
      T.v (Value.int IntKind.i64 u13),
      T.v (Value.int IntKind.i64 u14),
      T.v (Value.int IntKind.i64 u15),
      T.v (Value.int IntKind.i64 u16),
      T.v (Value.int IntKind.i64 u17)],
  T.agg [T.sl false (List.map yGrade.enc u18), T.sl false (List.map ySection.enc u19)]] = sp_ptmass ((u0, (u1, (u2, (u3, (u4, (u5, ((u6, u7), (u8, (u9, (u10, ((u11, (u12, u13)), ((u14, (u15, u16)), u17)))))))))))), (u18, u19)) := gS_enc (s := s_ptmass) rfl ((u0, (u1, (u2, (u3, (u4, (u5, ((u6, u7), (u8, (u9, (u10, ((u11, (u12, u13)), ((u14, (u15, u16)), u17)))))))))))), (u18, u19)) rfl
theorem of_ptmass (h : ∀ (a0 : TPart) (a1 : TMaterials) (r : T), sp_ptmass (a0, a1) = some r → BdSh s_ptmass (a0, a1) → F_ptmass a0 a1 (fun y => y = r)) : PureFn Tryz.prog 69 g_ptmass :=
  pureFn_S (E := E_ptmass) (Hs := H_ptmass) Eok_ptmass mixed' plain' (noHeap_of rfl) 8 ⟨_, _, Tryz.func69, rfl⟩ rfl fun x r h1 h2 => by
    obtain ⟨a0, a1⟩ := x
    rw [show Sh.encs s_ptmass (a0, a1) = [encV true yPart a0, encV true yMaterials a1] from rfl, F_ptmass_eq]
    exact h a0 a1 r h1 h2

theorem fn_ptmass : PureFn Tryz.prog 69 g_ptmass := of_ptmass fun p m r h hb => by
  obtain ⟨hok, rfl⟩ := onlyM_of h
  replace hok : okM m = true := hok
  clear h hb
  have is : ∀ {a b : Int}, massE p m = (a, b) → T.tup [T.v (Value.int IntKind.i64 a), T.v (Value.int IntKind.i64 b)] = Sh.enc r_ptmass (massE p m) := fun h => by rw [h]; rfl
  unfold F_ptmass
  refine callK_some (s := [(false, .int .i64)]) (g_ptcheck_ok hok p) ?_
  refine ifQ (fun h => is (by unfold massE; rw [if_neg h])) fun h => ?_
  refine callK_some (s := [(true, yGrade), (false, .bool)]) (g_mGrade_ok hok _) ?_
  refine callK_some (s := [(true, ySection), (false, .bool)]) (g_section_ok m _) ?_
  have w : massE p m = (massW p m, 0) := by unfold massE; rw [if_pos h]
  have eg : (found noGrade (gradeOf m (aGrade p))).1 = gradeD m (aGrade p) := found_D
  have es : (found noSec (secOf m (aSec p))).1 = secD m (aSec p) := found_D
  refine ifP (fun k1 => ?_) fun k1 => ?_
  · refine callK_some (s := [(false, .int .i64)]) (g_rarea2_ok _) ?_
    refine ⟨rfl, is ?_⟩
    rw [w]; unfold massW; rw [if_pos k1, ← eg]
  refine ifP (fun k2 => ⟨rfl, is ?_⟩) fun k2 => ?_
  · rw [w]; unfold massW; rw [if_neg k1, if_pos (.inl k2), ← eg, ← es]
  refine ifP (fun k3 => ⟨rfl, is ?_⟩) fun k3 => ?_
  · rw [w]; unfold massW; rw [if_neg k1, if_pos (.inr k3), ← eg, ← es]
  have fin : massE p m = (aMass p, 0) := by
    rw [w]; unfold massW; rw [if_neg k1, if_neg]; rintro (h | h)
    · exact k2 h
    · exact k3 h
  exact ifP (fun _ => is fin) fun _ => is fin
theorem g_ptmass_ok {m : TMaterials} (h : okM m = true) (p : TPart) : g_ptmass [encV true yPart p, encV true yMaterials m] = some (Sh.enc [(false, .int .i64), (false, .int .i64)] (massE p m)) := (g_ptmass_at ..).trans (onlyM_ok _ h)
end Go.Pv
set_option linter.unusedSimpArgs false
set_option linter.unusedVariables false
set_option maxRecDepth 100000
namespace Go.Pv
open Go Go.Proofs
set_option maxRecDepth 100000
def A_dParts (a0 : TDesign) (m1 : List (ByteArray × Int)) (m2 : List (ByteArray × Int)) (m3 : List (ByteArray × Int)) (m4 : List (ByteArray × Int)) (a5 : TMaterials) : List T := [tRef a0 m1 m2 m3 m4, T.agg (yMaterials.enc a5)]
noncomputable def E_dParts : Env := Env.of [(68, .pure g_ptcheck), (69, .pure g_ptmass)]
def H_dParts : FuncId → Hint := fun f => match f == 44 with | true => ⟨fun r => match r == 2 with | true => .inv [.val 23 false (.int .i64)] | false => match r == 13 with | true => .inv [.val 10 false (.int .i64), .val 54 false (.int .i64)] | false => .none, fun _ _ => none, fun _ => none⟩ | false => noHint
theorem Eok_dParts : EnvOk Tryz.prog E_dParts := EnvOk.cons (x := .pure g_ptcheck) fn_ptcheck (EnvOk.cons (x := .pure g_ptmass) fn_ptmass (EnvOk.nil _))
def F_dParts (a0 : TDesign) (m1 : List (ByteArray × Int)) (m2 : List (ByteArray × Int)) (m3 : List (ByteArray × Int)) (m4 : List (ByteArray × Int)) (a5 : TMaterials) (R : T → Prop) : Prop :=
 loopK (Int × PUnit)
 (fun (X0 : Int × PUnit → Prop) (s1 : Int × PUnit) =>
 iteP (decide (s1.fst < (↑(List.map yPart.enc a0.snd.snd.fst).length : Int)))
 (rowsK yPart (List.map yPart.enc a0.snd.snd.fst) s1.fst fun (y2 : TPart) =>
 callK [(false, Sy.int IntKind.i64)]
 (g_ptcheck [encV true yPart y2, encV true yMaterials a5]) fun (y3 : Int) =>
 iteP (!decide (y3 = 0)) (R (T.v (Value.int IntKind.i64 y3)))
 (findK TypeDesc.string (Value.string y2.snd.snd.snd.fst) (mpD (encM m1)) false
 (Sy.int IntKind.i64) (R (T.v (Value.int IntKind.i64 8))) fun (i4 : Nat) (y5 : Int) =>
 X0 (IntKind.i64.wrap (s1.fst + 1), ())))
 (loopK (Int × Int × PUnit)
 (fun (X6 : Int × Int × PUnit → Prop) (s7 : Int × Int × PUnit) =>
 iteP (decide (s7.snd.fst < (↑(List.map yPart.enc a0.snd.snd.fst).length : Int)))
 (rowsK yPart (List.map yPart.enc a0.snd.snd.fst) s7.snd.fst fun (y8 : TPart) =>
 callK [(false, Sy.int IntKind.i64), (false, Sy.int IntKind.i64)]
 (g_ptmass [encV true yPart y8, encV true yMaterials a5])
 fun (y9 : TPoint) =>
 iteP (decide (1099511627776 < IntKind.i64.wrap (s7.fst + y9.fst)))
 (R (T.v (Value.int IntKind.i64 13)))
 (X6 (IntKind.i64.wrap (s7.fst + y9.fst), IntKind.i64.wrap (s7.snd.fst + 1), ())))
 (R (T.v (Value.int IntKind.i64 0))))
 (0, 0, ())))
 (0, ())
theorem F_dParts_eq (a0 : TDesign) (m1 : List (ByteArray × Int)) (m2 : List (ByteArray × Int)) (m3 : List (ByteArray × Int)) (m4 : List (ByteArray × Int)) (a5 : TMaterials) (R : T → Prop) : sxTop stdC2 Tryz.prog E_dParts H_dParts 8 44 (A_dParts a0 m1 m2 m3 m4 a5) R = F_dParts a0 m1 m2 m3 m4 a5 R := by kernel_rfl
abbrev r_dParts : Sh := [(false, Sy.int IntKind.i64)]
theorem r_dParts_call (y : Sh.den r_dParts) (K : Sh.den r_dParts → Prop) : callK r_dParts (some (Sh.enc r_dParts y)) K = K y := callK_enc rfl y K

theorem A_dParts_inj (x y : TDesign × MP × MP × MP × MP × TMaterials) (h : A_dParts x.1 x.2.1 x.2.2.1 x.2.2.2.1 x.2.2.2.2.1 x.2.2.2.2.2 = A_dParts y.1 y.2.1 y.2.2.1 y.2.2.2.1 y.2.2.2.2.1 y.2.2.2.2.2) : x = y := by
  obtain ⟨h1, h2⟩ := List.cons.inj h
  have := tRef_inj (x := (x.1, x.2.1, x.2.2.1, x.2.2.2.1, x.2.2.2.2.1)) (y := (y.1, y.2.1, y.2.2.1, y.2.2.2.1, y.2.2.2.2.1)) h1
  have h2 := Sy.enc_inj yMaterials _ _ (T.agg.inj (List.cons.inj h2).1)
  simp only [Prod.mk.injEq] at this
  obtain ⟨e1, e2, e3, e4, e5⟩ := this
  exact Prod.ext e1 (Prod.ext e2 (Prod.ext e3 (Prod.ext e4 (Prod.ext e5 h2))))
def partNodeE (d : TDesign) (m : TMaterials) (p : TPart) : Int := if partE p m = 0 then (if (nodeOf d (aNode p)).isNone = true then 8 else 0) else partE p m
def sumRun (m : TMaterials) : List TPart → Int → Int
  | [], _ => 0
  | p :: l, s => if 1099511627776 < IntKind.i64.wrap (s + (massE p m).1) then 13 else sumRun m l (IntKind.i64.wrap (s + (massE p m).1))
def partsE (d : TDesign) (m : TMaterials) : Int := if firstE (partNodeE d m) d.2.2.1 = 0 then sumRun m d.2.2.1 0 else firstE (partNodeE d m) d.2.2.1
def sp_dParts (x : TDesign × MP × MP × MP × MP × TMaterials) : Option T := match okM x.2.2.2.2.2 with
  | true => onlyT (x.1, x.2.1, x.2.2.1, x.2.2.2.1, x.2.2.2.2.1) (T.v (Value.int .i64 (partsE x.1 x.2.2.2.2.2)))
  | false => none
noncomputable def g_dParts : List T → Option (T) := gA (fun (x : TDesign × (List (ByteArray × Int)) × (List (ByteArray × Int)) × (List (ByteArray × Int)) × (List (ByteArray × Int)) × TMaterials) => A_dParts x.1 x.2.1 x.2.2.1 x.2.2.2.1 x.2.2.2.2.1 x.2.2.2.2.2) sp_dParts
theorem g_dParts_at (a0 : TDesign) (m1 : List (ByteArray × Int)) (m2 : List (ByteArray × Int)) (m3 : List (ByteArray × Int)) (m4 : List (ByteArray × Int)) (a5 : TMaterials) : g_dParts (A_dParts a0 m1 m2 m3 m4 a5) = sp_dParts (a0, m1, m2, m3, m4, a5) := gA_at (A := (fun (x : TDesign × (List (ByteArray × Int)) × (List (ByteArray × Int)) × (List (ByteArray × Int)) × (List (ByteArray × Int)) × TMaterials) => A_dParts x.1 x.2.1 x.2.2.1 x.2.2.2.1 x.2.2.2.2.1 x.2.2.2.2.2)) A_dParts_inj (a0, m1, m2, m3, m4, a5)
theorem of_dParts (h : ∀ (a0 : TDesign) (m1 : List (ByteArray × Int)) (m2 : List (ByteArray × Int)) (m3 : List (ByteArray × Int)) (m4 : List (ByteArray × Int)) (a5 : TMaterials) (r : T), sp_dParts (a0, m1, m2, m3, m4, a5) = some r → (∀ t ∈ A_dParts a0 m1 m2 m3 m4 a5, Bd t) → F_dParts a0 m1 m2 m3 m4 a5 (fun y => y = r)) : PureFn Tryz.prog 44 g_dParts :=
  pureFn_A (E := E_dParts) (Hs := H_dParts) Eok_dParts mixed' plain' (noHeap_of rfl) 8 ⟨_, _, Tryz.func44, rfl⟩ fun x r h1 h2 => by
    rw [F_dParts_eq]
    exact h x.1 x.2.1 x.2.2.1 x.2.2.2.1 x.2.2.2.2.1 x.2.2.2.2.2 r h1 h2

theorem fn_dParts : PureFn Tryz.prog 44 g_dParts := of_dParts fun d m1 m2 m3 m4 m r h hb => by
  unfold sp_dParts at h
  split at h
  case h_2 => cases h
  rename_i hok
  replace hok : okM m = true := hok
  obtain ⟨hx, hs, rfl⟩ := onlyT_of h
  simp only [Prod.mk.injEq, true_and] at hx
  obtain ⟨rfl, rfl, rfl, rfl⟩ := hx
  replace hs : SmallD d := hs
  clear h hb
  have is : ∀ {n : Int}, partsE d m = n → T.v (Value.int IntKind.i64 n) = T.v (Value.int IntKind.i64 (partsE d m)) := fun h => by rw [h]
  unfold F_dParts
  refine first_loop (r := yPart) (partNodeE d m) hs.p (fun X s y hy hgo hbad => ?_) fun h0 => ?_
  · have bad : ∀ {n : Int}, n ≠ 0 → partNodeE d m y = n → T.v (Value.int IntKind.i64 n) = T.v (Value.int IntKind.i64 (partsE d m)) := fun hn h => by
      have h1 := hbad (by rw [h]; exact hn)
      refine is ?_
      unfold partsE
      rw [if_neg (by rw [h1, h]; exact hn), h1, h]
    refine callK_some (s := [(false, .int .i64)]) (g_ptcheck_ok hok y) ?_
    refine ifQ (fun h => bad h (by unfold partNodeE; rw [if_neg h])) fun h => ?_
    refine ixK (fun hn => bad (by decide) ?_) fun i j hj hn => hgo ?_
    · have hn : nodeOf d (aNode y) = none := hn
      unfold partNodeE; rw [if_pos h, hn]; rfl
    · have hn : nodeOf d (aNode y) = some d.2.1[j] := hn
      unfold partNodeE; rw [if_pos h, hn]; rfl
  · have w : partsE d m = sumRun m d.2.2.1 0 := by unfold partsE; rw [if_pos h0]
    clear h0
    have hl := hs.p
    generalize d.2.2.1 = l at w hl ⊢
    refine loopK_ix l.length (fun k s => s.2.1 = (k : Int) ∧ sumRun m (l.drop k) s.1 = partsE d m) ⟨rfl, by rw [w]; rfl⟩ ?_
    rintro X k ⟨s, i, u⟩ hk ⟨rfl, he⟩ hX
    dsimp only at he ⊢
    refine ifP (fun hlt => ?_) fun hge => ?_
    · rw [List.length_map] at hlt
      have hlt : k < l.length := by omega
      rw [rowsK_at (r := yPart) hlt]
      rw [List.drop_eq_getElem_cons hlt, sumRun] at he
      refine callK_some (s := [(false, .int .i64), (false, .int .i64)]) (g_ptmass_ok hok _) ?_
      refine ifP (fun h => is (by rw [← he, if_pos h])) fun h => ?_
      rw [if_neg h] at he
      refine hX _ hlt ⟨?_, he⟩
      show IntKind.i64.wrap ((k : Int) + 1) = _
      rw [wrap_id] <;> omega
    · rw [List.length_map] at hge
      have : k = l.length := by omega
      subst this
      rw [List.drop_length, sumRun] at he
      exact is he.symm
end Go.Pv
set_option linter.unusedSimpArgs false
set_option linter.unusedVariables false
set_option maxRecDepth 100000
namespace Go.Pv
open Go Go.Proofs
set_option maxRecDepth 100000
def A_dPacks (a0 : TDesign) (m1 : List (ByteArray × Int)) (m2 : List (ByteArray × Int)) (m3 : List (ByteArray × Int)) (m4 : List (ByteArray × Int)) : List T := [tRef a0 m1 m2 m3 m4]
noncomputable def E_dPacks : Env := Env.of [(34, .pure g_isId), (62, .pure g_ri), (71, .pure g_strF), (70, .pure g_isBlk), (67, .pure g_tclimb), (72, .new g_order)]
def H_dPacks : FuncId → Hint := fun f => match f == 46 with | true => ⟨fun r => match r == 4 with | true => .inv [.own 3 2 (.pr (.int .i64) (.int .i64)), .map 0 .str false .bool, .val 29 false (.int .i64)] | false => match r == 15 with | true => .inv [.val 76 false (.int .i64), .map 0 .str false .bool] | false => match r == 31 with | true => .inv [.own 3 2 (.pr (.int .i64) (.int .i64)), .val 147 false (.int .i64)] | false => .none, fun _ _ => none, fun _ => none⟩ | false => noHint
theorem Eok_dPacks : EnvOk Tryz.prog E_dPacks := EnvOk.cons (x := .pure g_isId) fn_isId (EnvOk.cons (x := .pure g_ri) fn_ri (EnvOk.cons (x := .pure g_strF) fn_strF (EnvOk.cons (x := .pure g_isBlk) fn_isBlk (EnvOk.cons (x := .pure g_tclimb) fn_tclimb (EnvOk.cons (x := .new g_order) fn_order (EnvOk.nil _))))))
def F_dPacks (a0 : TDesign) (m1 : List (ByteArray × Int)) (m2 : List (ByteArray × Int)) (m3 : List (ByteArray × Int)) (m4 : List (ByteArray × Int)) (R : T → Prop) : Prop :=
 decMK Sy.str false Sy.bool [] fun (y0 : List (ByteArray × Bool)) =>
 loopK (List TPoint × List (ByteArray × Bool) × Int × PUnit)
 (fun (X1 : List TPoint × List (ByteArray × Bool) × Int × PUnit → Prop)
 (s2 : List TPoint × List (ByteArray × Bool) × Int × PUnit) =>
 iteP (decide (s2.snd.snd.fst < (↑(List.map yPackage.enc a0.snd.snd.snd.snd.fst).length : Int)))
 (rowsK yPackage (List.map yPackage.enc a0.snd.snd.snd.snd.fst) s2.snd.snd.fst
 fun (y3 : TPackage) =>
 callK [(false, Sy.bool)] (g_isId [T.v (Value.string y3.fst)]) fun (y4 : Bool) =>
 iteP (!y4) (R (T.v (Value.int IntKind.i64 6)))
 (callK [(false, Sy.bool)]
 (g_isBlk
 [T.ref
 [T.ref
 [T.v (Value.string a0.fst), T.sl false (List.map yNode.enc a0.snd.fst),
 T.sl false (List.map yPart.enc a0.snd.snd.fst),
 T.sl false (List.map ySeam.enc a0.snd.snd.snd.fst),
 T.sl false (List.map yPackage.enc a0.snd.snd.snd.snd.fst),
 T.sl false (List.map yNeed.enc a0.snd.snd.snd.snd.snd)],
 T.mp (encM m1), T.mp (encM m2), T.mp (encM m3),
 T.mp (encM m4)],
 T.v (Value.string y3.snd.fst)])
 fun (y5 : Bool) =>
 iteP (!y5) (R (T.v (Value.int IntKind.i64 8)))
 (iteP (decide (y3.snd.snd.snd.fst < 1)) (R (T.v (Value.int IntKind.i64 9)))
 (iteP (decide (10000 < y3.snd.snd.snd.fst)) (R (T.v (Value.int IntKind.i64 9)))
 (callK [(false, Sy.any)]
 (g_strF [T.sl false (List.map Sy.str.enc y3.snd.snd.fst)])
 fun (y6 : T) =>
 callK [(false, Sy.bool)]
 (g_ri
 [T.v
 (Value.int IntKind.i64
 (↑(List.map Sy.str.enc y3.snd.snd.fst).length : Int)),
 y6])
 fun (y7 : Bool) =>
 iteP (!y7) (R (T.v (Value.int IntKind.i64 11)))
 (callK [(false, Sy.any)]
 (g_strF [T.sl false (List.map Sy.str.enc y3.snd.snd.snd.snd)])
 fun (y8 : T) =>
 callK [(false, Sy.bool)]
 (g_ri
 [T.v
 (Value.int IntKind.i64
 (↑(List.map Sy.str.enc y3.snd.snd.snd.snd).length : Int)),
 y8])
 fun (y9 : Bool) =>
 iteP (!y9) (R (T.v (Value.int IntKind.i64 11)))
 (decMK Sy.str false Sy.bool
 (List.map (encE Sy.str false Sy.bool) s2.snd.fst)
 fun (y10 : List (ByteArray × Bool)) =>
 loopK (Int × List (ByteArray × Bool) × PUnit)
 (fun (X11 : Int × List (ByteArray × Bool) × PUnit → Prop)
 (s12 : Int × List (ByteArray × Bool) × PUnit) =>
 iteP
 (decide
 (s12.fst < (↑(List.map Sy.str.enc y3.snd.snd.fst).length : Int)))
 (rowsK Sy.str (List.map Sy.str.enc y3.snd.snd.fst) s12.fst
 fun (y13 : ByteArray) =>
 findK TypeDesc.string (Value.string y13)
 (mpD (encM m2)) false (Sy.int IntKind.i64)
 (R (T.v (Value.int IntKind.i64 8)))
 fun (i14 : Nat) (y15 : Int) =>
 rowsK yPart (List.map yPart.enc a0.snd.snd.fst) y15
 fun (y16 : TPart) =>
 iteP (!decide (y16.snd.snd.fst = 4))
 (iteP (!decide (y16.snd.snd.fst = 3))
 (R (T.v (Value.int IntKind.i64 10)))
 (rowsK yPart (List.map yPart.enc a0.snd.snd.fst)
 y15 fun (y17 : TPart) =>
 callK [(false, Sy.str.li), (false, Sy.bool)]
 (g_tclimb
 [T.ref
 [T.ref
 [T.v (Value.string a0.fst),
 T.sl false
 (List.map yNode.enc a0.snd.fst),
 T.sl false
 (List.map yPart.enc a0.snd.snd.fst),
 T.sl false
 (List.map ySeam.enc a0.snd.snd.snd.fst),
 T.sl false
 (List.map yPackage.enc
 a0.snd.snd.snd.snd.fst),
 T.sl false
 (List.map yNeed.enc
 a0.snd.snd.snd.snd.snd)],
 T.mp (encM m1), T.mp (encM m2),
 T.mp (encM m3), T.mp (encM m4)],
 T.v (Value.string y17.snd.snd.snd.fst)])
 fun (y18 : List ByteArray × Bool) =>
 iteP
 (decide
 ((↑(List.map Sy.str.enc y18.fst).length : Int) = 0))
 (R (T.v (Value.int IntKind.i64 2)))
 (rowsK Sy.str (List.map Sy.str.enc y18.fst)
 (IntKind.i64.wrap
 ((↑(List.map Sy.str.enc y18.fst).length : Int) - 1))
 fun (y19 : ByteArray) =>
 iteP (!decide (y19 = y3.snd.fst))
 (R (T.v (Value.int IntKind.i64 2)))
 (findK TypeDesc.string (Value.string y13)
 (List.map (encE Sy.str false Sy.bool)
 s12.snd.fst)
 false Sy.bool
 (optK (Option (Nat × D))
 (findD TypeDesc.string (Value.string y13)
 (List.map
 (encE Sy.str false Sy.bool)
 s12.snd.fst)
 0)
 fun (y24 : Option (Nat × D)) =>
 decMK Sy.str false Sy.bool
 (setEnt
 (List.map
 (encE Sy.str false Sy.bool)
 s12.snd.fst)
 y24 (Value.string y13)
 (D.p (T.v (Value.bool true))))
 fun (y25 : List (ByteArray × Bool)) =>
 X11 (IntKind.i64.wrap (s12.fst + 1), y25, ()))
 fun (i20 : Nat) (y21 : Bool) =>
 iteP y21
 (R (T.v (Value.int IntKind.i64 7)))
 (optK (Option (Nat × D))
 (findD TypeDesc.string
 (Value.string y13)
 (List.map
 (encE Sy.str false Sy.bool)
 s12.snd.fst)
 0)
 fun (y22 : Option (Nat × D)) =>
 decMK Sy.str false Sy.bool
 (setEnt
 (List.map
 (encE Sy.str false Sy.bool)
 s12.snd.fst)
 y22 (Value.string y13)
 (D.p (T.v (Value.bool true))))
 fun (y23 : List (ByteArray × Bool)) =>
 X11
 (IntKind.i64.wrap (s12.fst + 1), y23,
 ()))))))
 (rowsK yPart (List.map yPart.enc a0.snd.snd.fst) y15
 fun (y26 : TPart) =>
 callK [(false, Sy.str.li), (false, Sy.bool)]
 (g_tclimb
 [T.ref
 [T.ref
 [T.v (Value.string a0.fst),
 T.sl false
 (List.map yNode.enc a0.snd.fst),
 T.sl false
 (List.map yPart.enc a0.snd.snd.fst),
 T.sl false
 (List.map ySeam.enc a0.snd.snd.snd.fst),
 T.sl false
 (List.map yPackage.enc
 a0.snd.snd.snd.snd.fst),
 T.sl false
 (List.map yNeed.enc a0.snd.snd.snd.snd.snd)],
 T.mp (encM m1), T.mp (encM m2),
 T.mp (encM m3), T.mp (encM m4)],
 T.v (Value.string y26.snd.snd.snd.fst)])
 fun (y27 : List ByteArray × Bool) =>
 iteP
 (decide
 ((↑(List.map Sy.str.enc y27.fst).length : Int) = 0))
 (R (T.v (Value.int IntKind.i64 2)))
 (rowsK Sy.str (List.map Sy.str.enc y27.fst)
 (IntKind.i64.wrap
 ((↑(List.map Sy.str.enc y27.fst).length : Int) - 1))
 fun (y28 : ByteArray) =>
 iteP (!decide (y28 = y3.snd.fst))
 (R (T.v (Value.int IntKind.i64 2)))
 (findK TypeDesc.string (Value.string y13)
 (List.map (encE Sy.str false Sy.bool)
 s12.snd.fst)
 false Sy.bool
 (optK (Option (Nat × D))
 (findD TypeDesc.string (Value.string y13)
 (List.map
 (encE Sy.str false Sy.bool)
 s12.snd.fst)
 0)
 fun (y33 : Option (Nat × D)) =>
 decMK Sy.str false Sy.bool
 (setEnt
 (List.map
 (encE Sy.str false Sy.bool)
 s12.snd.fst)
 y33 (Value.string y13)
 (D.p (T.v (Value.bool true))))
 fun (y34 : List (ByteArray × Bool)) =>
 X11 (IntKind.i64.wrap (s12.fst + 1), y34, ()))
 fun (i29 : Nat) (y30 : Bool) =>
 iteP y30
 (R (T.v (Value.int IntKind.i64 7)))
 (optK (Option (Nat × D))
 (findD TypeDesc.string (Value.string y13)
 (List.map
 (encE Sy.str false Sy.bool)
 s12.snd.fst)
 0)
 fun (y31 : Option (Nat × D)) =>
 decMK Sy.str false Sy.bool
 (setEnt
 (List.map
 (encE Sy.str false Sy.bool)
 s12.snd.fst)
 y31 (Value.string y13)
 (D.p (T.v (Value.bool true))))
 fun (y32 : List (ByteArray × Bool)) =>
 X11
 (IntKind.i64.wrap (s12.fst + 1), y32, ()))))))
 (decK yPoint (List.map yPoint.enc s2.fst)
 fun (y35 : List TPoint) =>
 loopK (List TPoint × Int × PUnit)
 (fun (X36 : List TPoint × Int × PUnit → Prop)
 (s37 : List TPoint × Int × PUnit) =>
 iteP
 (decide
 (s37.snd.fst <
 (↑(List.map Sy.str.enc y3.snd.snd.snd.snd).length : Int)))
 (rowsK Sy.str
 (List.map Sy.str.enc y3.snd.snd.snd.snd) s37.snd.fst
 fun (y38 : ByteArray) =>
 iteP (decide (y38 = y3.fst))
 (R (T.v (Value.int IntKind.i64 2)))
 (findK TypeDesc.string (Value.string y38)
 (mpD (encM m4)) false (Sy.int IntKind.i64)
 (R (T.v (Value.int IntKind.i64 8)))
 fun (i39 : Nat) (y40 : Int) =>
 reqK
 (decide
 (((List.map yPoint.enc s37.fst).length + 1) * 16 ≤
 140737488355328) &&
 decide
 ((List.map yPoint.enc s37.fst).length + 1 ≤
 140737488355328))
 (decK yPoint
 (List.map yPoint.enc s37.fst ++
 [[T.v (Value.int IntKind.i64 y40),
 T.v
 (Value.int IntKind.i64 s2.snd.snd.fst)]])
 fun (y41 : List TPoint) =>
 X36 (y41, IntKind.i64.wrap (s37.snd.fst + 1), ()))))
 (decK yPoint (List.map yPoint.enc s37.fst)
 fun (y42 : List TPoint) =>
 decMK Sy.str false Sy.bool
 (List.map (encE Sy.str false Sy.bool)
 s12.snd.fst)
 fun (y43 : List (ByteArray × Bool)) =>
 X1 (y42, y43, IntKind.i64.wrap (s2.snd.snd.fst + 1), ())))
 (y35, 0, ())))
 (0, y10, ()))))))))
 (callK [(false, (Sy.int IntKind.i64).li), (false, Sy.int IntKind.i64)]
 (g_order
 [T.v
 (Value.int IntKind.i64 (↑(List.map yPackage.enc a0.snd.snd.snd.snd.fst).length : Int)),
 T.sl false (List.map yPoint.enc s2.fst)])
 fun (y44 : List Int × Int) =>
 iteP (!decide (y44.snd = 0)) (R (T.v (Value.int IntKind.i64 20)))
 (R (T.v (Value.int IntKind.i64 0)))))
 ([], y0, 0, ())
theorem F_dPacks_eq (a0 : TDesign) (m1 : List (ByteArray × Int)) (m2 : List (ByteArray × Int)) (m3 : List (ByteArray × Int)) (m4 : List (ByteArray × Int)) (R : T → Prop) : sxTop stdC2 Tryz.prog E_dPacks H_dPacks 8 46 (A_dPacks a0 m1 m2 m3 m4) R = F_dPacks a0 m1 m2 m3 m4 R := by kernel_rfl
abbrev r_dPacks : Sh := [(false, Sy.int IntKind.i64)]
theorem r_dPacks_call (y : Sh.den r_dPacks) (K : Sh.den r_dPacks → Prop) : callK r_dPacks (some (Sh.enc r_dPacks y)) K = K y := callK_enc rfl y K

theorem A_dPacks_inj (x y : TDesign × MP × MP × MP × MP) (h : A_dPacks x.1 x.2.1 x.2.2.1 x.2.2.2.1 x.2.2.2.2 = A_dPacks y.1 y.2.1 y.2.2.1 y.2.2.2.1 y.2.2.2.2) : x = y := tRef_inj (List.cons.inj h).1
abbrev kParts (k : TPackage) : List ByteArray := k.2.2.1
abbrev kAfter (k : TPackage) : List ByteArray := k.2.2.2.2
abbrev kHours (k : TPackage) : Int := k.2.2.2.1
def headE (d : TDesign) (k : TPackage) : Int := if isId k.1 = false then 6 else if isBlk d k.2.1 = false then 8 else if kHours k < 1 ∨ 10000 < kHours k then 9 else if asc (kParts k) = false ∨ asc (kAfter k) = false then 11 else 0
/-- The parts that a package installs, one after the other. -/
def instE (d : TDesign) (b : ByteArray) : List ByteArray → List ByteArray → Int × List ByteArray
  | [], S => (0, S)
  | id :: l, S => match partOf d id with
    | none => (8, S)
    | some p => if ¬ aKind p = 4 ∧ ¬ aKind p = 3 then (10, S) else if (up d (aNode p)).1.getLast? = some b then (if memB S id = true then (7, S) else instE d b l (id :: S)) else (2, S)
/-- The packages that come ahead of the i-th one. -/
def aftE (d : TDesign) (k : ByteArray) (i : Int) : List ByteArray → List TPoint → Int × List TPoint
  | [], E => (0, E)
  | id :: l, E => if id = k then (2, E) else match getL (ixs (ids d.2.2.2.2.1)) id with
    | none => (8, E)
    | some j => aftE d k i l (E ++ [(j, i)])
def packRun (d : TDesign) : List TPackage → Int → List TPoint → List ByteArray → Int × List TPoint
  | [], _, E, _ => (0, E)
  | k :: l, i, E, S => if ¬ headE d k = 0 then (headE d k, E) else if ¬ (instE d k.2.1 (kParts k) S).1 = 0 then ((instE d k.2.1 (kParts k) S).1, E) else if ¬ (aftE d k.1 i (kAfter k) E).1 = 0 then ((aftE d k.1 i (kAfter k) E).1, E) else
    packRun d l (i + 1) (aftE d k.1 i (kAfter k) E).2 (instE d k.2.1 (kParts k) S).2
def packsE (d : TDesign) : Int := if (packRun d d.2.2.2.2.1 0 [] []).1 = 0 then (if (orderE d.2.2.2.2.1.length (packRun d d.2.2.2.2.1 0 [] []).2).2 = 0 then 0 else 20) else (packRun d d.2.2.2.2.1 0 [] []).1
/-- The lists in the packages are of a size that fits. -/
def okPacks (d : TDesign) : Bool := d.2.2.2.2.1.all (fun k => decide ((kParts k).length ≤ 140737488355328) && decide ((kAfter k).length ≤ 140737488355328)) && decide (d.2.2.2.2.1.length ≤ 64)
/-! ### Rising lists have no identifier twice -/
theorem sless_lt (a b : ByteArray) : sless a b = true ↔ a.data.toList < b.data.toList := by
  unfold sless; rw [bytesLess_eq, decide_eq_true_iff]
theorem asc_two {a b : ByteArray} (h : (!(sless b a || decide (b = a))) = true) : a.data.toList < b.data.toList := by
  simp only [Bool.not_eq_true', Bool.or_eq_false_iff, decide_eq_false_iff_not] at h
  refine Classical.byContradiction fun hc => h.2 ?_
  have h1 : ¬ b.data.toList < a.data.toList := fun h' => by rw [(sless_lt b a).2 h'] at h; exact absurd h.1 (by decide)
  have e : b.data.toList = a.data.toList := List.le_antisymm (List.not_lt.1 hc) (List.not_lt.1 h1)
  exact ByteArray.ext (Array.ext' e)
theorem asc_pair : ∀ {l : List ByteArray}, asc l = true → l.Pairwise fun a b => a.data.toList < b.data.toList
  | [], _ => List.Pairwise.nil
  | [a], _ => by simp
  | a :: b :: l, h => by
    rw [asc, Bool.and_eq_true] at h
    have h1 := asc_two h.1
    have ih := asc_pair h.2
    refine List.pairwise_cons.2 ⟨fun x hx => ?_, ih⟩
    rcases List.mem_cons.1 hx with rfl | hx
    · exact h1
    · exact List.lt_trans h1 ((List.pairwise_cons.1 ih).1 x hx)
theorem asc_nodup {l : List ByteArray} (h : asc l = true) : l.Nodup := by
  refine (asc_pair h).imp fun {a b} hab e => ?_
  subst e
  exact List.lt_irrefl _ hab
theorem len_sub : ∀ {l m : List ByteArray}, l.Nodup → (∀ x ∈ l, x ∈ m) → l.length ≤ m.length
  | [], _, _, _ => Nat.zero_le _
  | a :: l, m, h, hm => by
    obtain ⟨h1, h2⟩ := List.pairwise_cons.1 h
    have h3 : l.length ≤ (m.filter fun x => decide (x ≠ a)).length := len_sub h2 fun x hx => List.mem_filter.2 ⟨hm x (List.mem_cons_of_mem _ hx), decide_eq_true fun e => h1 x hx e.symm⟩
    have h4 : (m.filter fun x => decide (x ≠ a)).length < m.length := List.length_filter_lt_length_iff_exists.2 ⟨a, hm a List.mem_cons_self, by simp⟩
    rw [List.length_cons]; omega
def sp_dPacks (x : TDesign × MP × MP × MP × MP) : Option T := match okPacks x.1 with
  | true => onlyT x (T.v (Value.int .i64 (packsE x.1)))
  | false => none
noncomputable def g_dPacks : List T → Option (T) := gA (fun (x : TDesign × (List (ByteArray × Int)) × (List (ByteArray × Int)) × (List (ByteArray × Int)) × List (ByteArray × Int)) => A_dPacks x.1 x.2.1 x.2.2.1 x.2.2.2.1 x.2.2.2.2) sp_dPacks
theorem g_dPacks_at (a0 : TDesign) (m1 : List (ByteArray × Int)) (m2 : List (ByteArray × Int)) (m3 : List (ByteArray × Int)) (m4 : List (ByteArray × Int)) : g_dPacks (A_dPacks a0 m1 m2 m3 m4) = sp_dPacks (a0, m1, m2, m3, m4) := gA_at (A := (fun (x : TDesign × (List (ByteArray × Int)) × (List (ByteArray × Int)) × (List (ByteArray × Int)) × List (ByteArray × Int)) => A_dPacks x.1 x.2.1 x.2.2.1 x.2.2.2.1 x.2.2.2.2)) A_dPacks_inj (a0, m1, m2, m3, m4)
theorem of_dPacks (h : ∀ (a0 : TDesign) (m1 : List (ByteArray × Int)) (m2 : List (ByteArray × Int)) (m3 : List (ByteArray × Int)) (m4 : List (ByteArray × Int)) (r : T), sp_dPacks (a0, m1, m2, m3, m4) = some r → (∀ t ∈ A_dPacks a0 m1 m2 m3 m4, Bd t) → F_dPacks a0 m1 m2 m3 m4 (fun y => y = r)) : PureFn Tryz.prog 46 g_dPacks :=
  pureFn_A (E := E_dPacks) (Hs := H_dPacks) Eok_dPacks mixed' plain' (noHeap_of rfl) 8 ⟨_, _, Tryz.func46, rfl⟩ fun x r h1 h2 => by
    rw [F_dPacks_eq]
    exact h x.1 x.2.1 x.2.2.1 x.2.2.2.1 x.2.2.2.2 r h1 h2

theorem ixKg {α : Type} {id : ByteArray} {l : List (ByteArray × α)} {A : Prop} {B : Nat → Int → Prop} (hA : getL (ixs (ids l)) id = none → l.find? (fun s => decide (s.1 = id)) = none → A) (hB : ∀ i k (h : k < l.length), getL (ixs (ids l)) id = some (k : Int) → l.find? (fun s => decide (s.1 = id)) = some l[k] → B i (k : Int)) :
    findK TypeDesc.string (Value.string id) (mpD (encM (ixs (ids l)))) false (Sy.int IntKind.i64) A B := by
  rw [mpD_encM]
  refine findK_S (r := .int .i64) (fun h => ?_) fun i v h => ?_
  · rcases getL_ixs id l with ⟨h1, h2⟩ | ⟨k, hk, h1, _⟩
    · exact hA h1 h2
    · rw [h] at h1; cases h1
  · rcases getL_ixs id l with ⟨h1, _⟩ | ⟨k, hk, h1, h2⟩
    · rw [h] at h1; cases h1
    · rw [h] at h1; cases h1; exact hB i k hk h h2
/-- The last one of a list, by its place. -/
theorem lastK {l : List ByteArray} {b : ByteArray} {A : Prop} (hl : l.length ≤ 140737488355328) (hyes : l.getLast? = some b → A) (hno : ¬ l.getLast? = some b → A) {R2 : Prop} (hR2 : ¬ l.getLast? = some b → R2) {K : Prop} (hK : l.getLast? = some b → K) :
    iteP (decide (((List.map Sy.str.enc l).length : Int) = 0)) R2 (rowsK Sy.str (List.map Sy.str.enc l) (IntKind.i64.wrap (((List.map Sy.str.enc l).length : Int) - 1)) fun (y : ByteArray) => iteP (!decide (y = b)) R2 K) := by
  rw [List.length_map]
  refine ifP (fun h => hR2 ?_) fun h => ?_
  · have : l = [] := List.length_eq_zero_iff.1 (by omega)
    rw [this]; simp
  · have h1 : l.length - 1 < l.length := by omega
    rw [wrap_id _ (by omega) (by omega), show ((l.length : Int) - 1) = ((l.length - 1 : Nat) : Int) by omega, rowsK_at (r := .str) h1]
    have e : l.getLast? = some l[l.length - 1] := by rw [List.getLast?_eq_getElem?, List.getElem?_eq_getElem h1]
    refine ifQ (fun h => hR2 ?_) fun h => hK ?_
    · rw [e]; intro h'; exact h (Option.some.inj h')
    · rw [e]; exact congrArg some h
/-- The installed parts: what the map holds. -/
theorem seenK {es : List (ByteArray × Bool)} {S : List ByteArray} {id : ByteArray} {R7 : Prop} {K : List (ByteArray × Bool) → Prop} (hS : Seen es (fun x => x ∈ S)) (h7 : id ∈ S → R7) (hK : ∀ es', id ∉ S → Seen es' (fun x => x ∈ id :: S) → K es') :
    findK TypeDesc.string (Value.string id) (List.map (encE Sy.str false Sy.bool) es) false Sy.bool
      (optK (Option (Nat × D)) (findD TypeDesc.string (Value.string id) (List.map (encE Sy.str false Sy.bool) es) 0) fun (y24 : Option (Nat × D)) =>
        decMK Sy.str false Sy.bool (setEnt (List.map (encE Sy.str false Sy.bool) es) y24 (Value.string id) (D.p (T.v (Value.bool true)))) fun (y25 : List (ByteArray × Bool)) => K y25)
      fun (i20 : Nat) (y21 : Bool) => iteP y21 R7
        (optK (Option (Nat × D)) (findD TypeDesc.string (Value.string id) (List.map (encE Sy.str false Sy.bool) es) 0) fun (y22 : Option (Nat × D)) =>
          decMK Sy.str false Sy.bool (setEnt (List.map (encE Sy.str false Sy.bool) es) y22 (Value.string id) (D.p (T.v (Value.bool true)))) fun (y23 : List (ByteArray × Bool)) => K y23) := by
  refine findK_S (r := .bool) (fun hno => ?_) fun j b hb => ?_
  · refine ins_S (r := .bool) rfl (es := es) (k := id) (v := true) (hK _ (fun h => ?_) ((hS.ins id).congr fun x => ?_))
    · have := (hS.2 id).2 h
      rw [hno] at this; cases this
    · rw [List.mem_cons]; exact ⟨fun h => h.symm.imp_left Eq.symm, fun h => h.symm.imp_right Eq.symm⟩
  · have := hS.1 _ _ hb
    subst this
    rw [iteP_t]
    exact h7 ((hS.2 _).1 hb)
theorem fn_dPacks : PureFn Tryz.prog 46 g_dPacks := of_dPacks fun d m1 m2 m3 m4 r h hb => by
  unfold sp_dPacks at h
  split at h
  case h_2 => cases h
  rename_i hok
  replace hok : okPacks d = true := hok
  obtain ⟨hx, hs, rfl⟩ := onlyT_of h
  simp only [Prod.mk.injEq, true_and] at hx
  obtain ⟨rfl, rfl, rfl, rfl⟩ := hx
  replace hs : SmallD d := hs
  clear h hb
  simp only [okPacks, Bool.and_eq_true, decide_eq_true_eq, List.all_eq_true] at hok
  obtain ⟨hkp, hka⟩ := hok
  have hkq := fun k hk => (hkp k hk).2
  replace hkp := fun k hk => (hkp k hk).1
  have hlk := hs.k
  have is : ∀ {n : Int}, packsE d = n → T.v (Value.int IntKind.i64 n) = T.v (Value.int IntKind.i64 (packsE d)) := fun h => by rw [h]
  unfold F_dPacks
  refine decMK_eS (r := .bool) rfl [] _ ?_
  refine loopK_ix d.2.2.2.2.1.length (fun k s => ∃ S, s.2.2.1 = (k : Int) ∧ Seen s.2.1 (fun x => x ∈ S) ∧ s.1.length ≤ 64 * k ∧ packRun d (d.2.2.2.2.1.drop k) k s.1 S = packRun d d.2.2.2.2.1 0 [] []) ⟨[], rfl, Seen.nil.congr (by simp), by simp, rfl⟩ ?_
  rintro X k ⟨E, es, i, u⟩ hk ⟨S, rfl, hseen, hlen, hr⟩ hX
  dsimp only at hseen hlen hr ⊢
  refine ifP (fun hlt => ?_) fun hge => ?_
  · rw [List.length_map] at hlt
    have hlt : k < d.2.2.2.2.1.length := by omega
    rw [rowsK_at (r := yPackage) hlt]
    rw [List.drop_eq_getElem_cons hlt] at hr
    have hmem := List.getElem_mem hlt
    have hp1 := hkp _ hmem
    have hp2 := hkq _ hmem
    generalize hy : d.2.2.2.2.1[k] = y at hr hp1 hp2 ⊢
    rw [packRun] at hr
    have bad : ∀ {n : Int}, n ≠ 0 → (packRun d d.2.2.2.2.1 0 [] []).1 = n → T.v (Value.int IntKind.i64 n) = T.v (Value.int IntKind.i64 (packsE d)) := fun hn h => by
      refine is ?_
      unfold packsE
      rw [if_neg (by rw [h]; exact hn), h]
    have badH : ∀ {n : Int}, n ≠ 0 → headE d y = n → T.v (Value.int IntKind.i64 n) = T.v (Value.int IntKind.i64 (packsE d)) := fun hn h => by
      refine bad hn ?_
      rw [if_pos (by rw [h]; exact hn)] at hr
      rw [← hr]; exact h
    rw [isId_call]
    refine ifNB (fun h => badH (by decide) (by unfold headE; rw [if_pos h])) fun i1 => ?_
    refine callK_some (s := [(false, .bool)]) (g_isBlk_ok hs _) ?_
    refine ifNB (fun h => badH (by decide) (by unfold headE; rw [if_neg (by rw [i1]; decide), if_pos h])) fun i2 => ?_
    have n1 : ¬ isId y.1 = false := by rw [i1]; decide
    have n2 : ¬ isBlk d y.2.1 = false := by rw [i2]; decide
    refine ifP (fun h => badH (by decide) (by unfold headE; rw [if_neg n1, if_neg n2, if_pos (.inl h)])) fun h3 => ?_
    refine ifP (fun h => badH (by decide) (by unfold headE; rw [if_neg n1, if_neg n2, if_pos (.inr h)])) fun h4 => ?_
    have n3 : ¬ (kHours y < 1 ∨ 10000 < kHours y) := by rintro (h | h); exact h3 h; exact h4 h
    refine callK_some (s := [(false, .any)]) (g_strF_at (a0 := kParts y)) ?_
    refine ri_call (b := asc (kParts y)) (by rw [List.length_map]; exact g_ri_5 hp1) _ ?_
    refine ifNB (fun h => badH (by decide) (by unfold headE; rw [if_neg n1, if_neg n2, if_neg n3, if_pos (.inl h)])) fun h5 => ?_
    refine callK_some (s := [(false, .any)]) (g_strF_at (a0 := kAfter y)) ?_
    refine ri_call (b := asc (kAfter y)) (by rw [List.length_map]; exact g_ri_5 (l := kAfter y) hp2) _ ?_
    refine ifNB (fun h => badH (by decide) (by unfold headE; rw [if_neg n1, if_neg n2, if_neg n3, if_pos (.inr h)])) fun h6 => ?_
    have hh : headE d y = 0 := by unfold headE; rw [if_neg n1, if_neg n2, if_neg n3, if_neg]; rintro (h | h); (rw [h5] at h; cases h); (rw [h6] at h; cases h)
    have hnd := asc_nodup h6
    clear badH n1 n2 n3 h3 h4 h5 h6 i1 i2
    rw [if_neg (fun h => h hh)] at hr
    refine decMK_eS (r := .bool) rfl es _ ?_
    refine loopK_ix (kParts y).length (fun j s => ∃ S', s.1 = (j : Int) ∧ Seen s.2.1 (fun x => x ∈ S') ∧ instE d y.2.1 ((kParts y).drop j) S' = instE d y.2.1 (kParts y) S) ⟨S, rfl, hseen, rfl⟩ ?_
    rintro Y j ⟨i, es', u⟩ hj ⟨S', rfl, hseen', hi⟩ hY
    dsimp only at hseen' hi ⊢
    refine ifP (fun hjl => ?_) fun hjl => ?_
    · rw [List.length_map] at hjl
      replace hjl : (j : Int) < ((kParts y).length : Int) := hjl
      have hjl : j < (kParts y).length := by omega
      rw [rowsK_at (r := .str) hjl]
      rw [List.drop_eq_getElem_cons hjl, instE] at hi
      have badI : ∀ {n : Int}, n ≠ 0 → (instE d y.2.1 (kParts y) S).1 = n → T.v (Value.int IntKind.i64 n) = T.v (Value.int IntKind.i64 (packsE d)) := fun hn h => by
        refine bad hn ?_
        rw [if_pos (by rw [h]; exact hn)] at hr
        rw [← hr]; exact h
      have hw : IntKind.i64.wrap ((j : Int) + 1) = ((j + 1 : Nat) : Int) := wrap_id _ (by omega) (by omega)
      generalize (kParts y)[j] = id at hi ⊢
      refine ixKg (fun _ hn => badI (by decide) ?_) fun i q hq _ hn => ?_
      · have hn : partOf d id = none := hn
        rw [hn] at hi; rw [← hi]
      · have hn : partOf d id = some d.2.2.1[q] := hn
        rw [hn] at hi
        rw [rowsK_at (r := yPart) hq]
        obtain ⟨p, hp⟩ : ∃ p, p = d.2.2.1[q] := ⟨_, rfl⟩
        rw [← hp] at hi hn ⊢
        dsimp only at hi
        have fin : ¬ (¬ aKind p = 4 ∧ ¬ aKind p = 3) → callK [(false, Sy.str.li), (false, Sy.bool)]
            (g_tclimb (A_tclimb d (ixs (ids d.2.1)) (ixs (ids d.2.2.1)) (ixs (ids d.2.2.2.1)) (ixs (ids d.2.2.2.2.1)) (aNode p))) fun (y18 : List ByteArray × Bool) =>
            iteP (decide (((List.map Sy.str.enc y18.fst).length : Int) = 0)) (T.v (Value.int IntKind.i64 2) = T.v (Value.int IntKind.i64 (packsE d)))
              (rowsK Sy.str (List.map Sy.str.enc y18.fst) (IntKind.i64.wrap (((List.map Sy.str.enc y18.fst).length : Int) - 1)) fun (y19 : ByteArray) =>
                iteP (!decide (y19 = y.snd.fst)) (T.v (Value.int IntKind.i64 2) = T.v (Value.int IntKind.i64 (packsE d)))
                (findK TypeDesc.string (Value.string id) (List.map (encE Sy.str false Sy.bool) es') false Sy.bool
                  (optK (Option (Nat × D)) (findD TypeDesc.string (Value.string id) (List.map (encE Sy.str false Sy.bool) es') 0) fun (y24 : Option (Nat × D)) =>
                    decMK Sy.str false Sy.bool (setEnt (List.map (encE Sy.str false Sy.bool) es') y24 (Value.string id) (D.p (T.v (Value.bool true)))) fun (y25 : List (ByteArray × Bool)) => Y (IntKind.i64.wrap ((j : Int) + 1), y25, ()))
                  fun (i20 : Nat) (y21 : Bool) => iteP y21 (T.v (Value.int IntKind.i64 7) = T.v (Value.int IntKind.i64 (packsE d)))
                    (optK (Option (Nat × D)) (findD TypeDesc.string (Value.string id) (List.map (encE Sy.str false Sy.bool) es') 0) fun (y22 : Option (Nat × D)) =>
                      decMK Sy.str false Sy.bool (setEnt (List.map (encE Sy.str false Sy.bool) es') y22 (Value.string id) (D.p (T.v (Value.bool true)))) fun (y23 : List (ByteArray × Bool)) => Y (IntKind.i64.wrap ((j : Int) + 1), y23, ())))) := by
          intro hk
          rw [if_neg hk] at hi
          refine callK_some (s := [(false, .li .str), (false, .bool)]) (g_tclimb_ok hs _) ?_
          have hul := up_len d (aNode p)
          refine lastK (A := True) (b := y.2.1) (by omega) (fun _ => trivial) (fun _ => trivial) (fun h => badI (by decide) ?_) fun h => ?_
          · rw [if_neg h] at hi; rw [← hi]
          · rw [if_pos h] at hi
            refine seenK (K := fun es => Y (IntKind.i64.wrap ((j : Int) + 1), es, ())) hseen' (fun h7 => badI (by decide) ?_) fun es2 h7 hs2 => ?_
            · rw [if_pos (memB_iff.2 h7)] at hi; rw [← hi]
            · rw [if_neg (fun h => h7 (memB_iff.1 h))] at hi
              rw [hw]
              exact hY _ hjl ⟨id :: S', rfl, hs2, hi⟩
        refine ifQ (fun k4 => ?_) fun k4 => ?_
        · refine ifQ (fun k3 => badI (by decide) ?_) fun k3 => ?_
          · rw [if_pos ⟨k4, k3⟩] at hi; rw [← hi]
          · rw [rowsK_at (r := yPart) hq, ← hp]
            exact fin fun h => h.2 k3
        · rw [rowsK_at (r := yPart) hq, ← hp]
          exact fin fun h => h.1 k4
    · rw [List.length_map] at hjl
      replace hjl : ¬ (j : Int) < ((kParts y).length : Int) := hjl
      have hjl : j = (kParts y).length := by omega
      subst hjl
      rw [List.drop_length, instE] at hi
      rw [← hi, if_neg (by simp)] at hr
      dsimp only at hr
      clear hY hi hj
      rw [decK_map rfl]
      refine loopK_ix (kAfter y).length (fun j s => s.2.1 = (j : Int) ∧ s.1.length = E.length + j ∧ (∀ x ∈ (kAfter y).take j, x ∈ ids d.2.2.2.2.1) ∧ aftE d y.1 k ((kAfter y).drop j) s.1 = aftE d y.1 k (kAfter y) E) ⟨rfl, by simp, by simp, rfl⟩ ?_
      rintro Y j ⟨E', i, u⟩ hj ⟨rfl, hEl, hin, hi⟩ hY
      dsimp only at hEl hin hi ⊢
      have hjk : j ≤ 64 := by
        have h1 := len_sub (hnd.sublist (List.take_sublist j _)) hin
        have h2 : (ids d.2.2.2.2.1).length = d.2.2.2.2.1.length := by simp [ids]
        rw [List.length_take] at h1
        omega
      refine ifP (fun hjl => ?_) fun hjl => ?_
      · rw [List.length_map] at hjl
        replace hjl : (j : Int) < ((kAfter y).length : Int) := hjl
        have hjl : j < (kAfter y).length := by omega
        rw [rowsK_at (r := .str) hjl]
        rw [List.drop_eq_getElem_cons hjl, aftE] at hi
        have badA : ∀ {n : Int}, n ≠ 0 → (aftE d y.1 k (kAfter y) E).1 = n → T.v (Value.int IntKind.i64 n) = T.v (Value.int IntKind.i64 (packsE d)) := fun hn h => by
          refine bad hn ?_
          rw [if_pos (by rw [h]; exact hn)] at hr
          rw [← hr]; exact h
        have hw : IntKind.i64.wrap ((j : Int) + 1) = ((j + 1 : Nat) : Int) := wrap_id _ (by omega) (by omega)
        have hts : (kAfter y).take (j + 1) = (kAfter y).take j ++ [(kAfter y)[j]] := List.take_succ_eq_append_getElem hjl
        generalize (kAfter y)[j] = id at hi hts ⊢
        refine ifP (fun h => badA (by decide) ?_) fun h => ?_
        · rw [if_pos h] at hi; rw [← hi]
        rw [if_neg h] at hi
        refine ixKg (fun hg _ => badA (by decide) ?_) fun i q hq hg hfi => ?_
        · rw [hg] at hi; rw [← hi]
        · rw [hg] at hi
          dsimp only at hi
          refine ⟨by simp; omega, ?_⟩
          rw [decK_snoc (r := yPoint) rfl E' [T.v (.int .i64 (q : Int)), T.v (.int .i64 (k : Int))] ((q : Int), (k : Int)) rfl, hw]
          refine hY _ hjl ⟨rfl, by simp only [List.length_append, List.length_cons, List.length_nil]; omega, fun x hx => ?_, hi⟩
          rw [hts] at hx
          rcases List.mem_append.1 hx with hx | hx
          · exact hin x hx
          · have hx : x = id := by simpa using hx
            subst hx
            have h9 := List.find?_some hfi
            exact List.mem_map.2 ⟨_, List.getElem_mem hq, of_decide_eq_true h9⟩
      · rw [List.length_map] at hjl
        replace hjl : ¬ (j : Int) < ((kAfter y).length : Int) := hjl
        have hjl : j = (kAfter y).length := by omega
        subst hjl
        rw [List.drop_length, aftE] at hi
        rw [← hi, if_neg (by simp)] at hr
        dsimp only at hr
        rw [decK_map rfl]
        refine decMK_eS (r := .bool) rfl es' _ ?_
        refine hX _ hlt ⟨S', ?_, hseen', ?_, ?_⟩
        · show IntKind.i64.wrap ((k : Int) + 1) = _
          rw [wrap_id] <;> omega
        · show E'.length ≤ _
          omega
        · rw [← hr]; rfl
  · rw [List.length_map] at hge
    have hkl : k = d.2.2.2.2.1.length := by omega
    subst hkl
    rw [List.drop_length, packRun] at hr
    have w : packsE d = if (orderE d.2.2.2.2.1.length E).2 = 0 then 0 else 20 := by
      unfold packsE; rw [← hr, if_pos rfl]
    refine callK_some (s := [(false, .li (.int .i64)), (false, .int .i64)]) (y := orderE d.2.2.2.2.1.length E) (by rw [List.length_map]; exact (g_order_at ..).trans (onlyL_ok (l := E) _ (by omega))) ?_
    exact ifQ (fun h => is (by rw [w, if_neg h])) fun h => is (by rw [w, if_pos h])
end Go.Pv
set_option linter.unusedSimpArgs false
set_option linter.unusedVariables false
set_option maxRecDepth 100000
namespace Go.Pv
open Go Go.Proofs
noncomputable def g_ixB : List T → Option (List (ByteArray × Int)) := g_ix
theorem fn_ixB : NewFn Tryz.prog 57 (gMap g_ixB) := fn_ix
set_option maxRecDepth 100000
noncomputable def E_chkF : Env := Env.of [(39, .pure g_mcheck), (40, .pure g_isName), (57, .fmap g_ixB), (42, .pure g_form), (43, .pure g_cNodes), (44, .pure g_dParts), (45, .pure g_cSeams), (46, .pure g_dPacks), (47, .pure g_cNeeds)]
def H_chkF : FuncId → Hint := fun _ => noHint
theorem Eok_chkF : EnvOk Tryz.prog E_chkF := EnvOk.cons (x := .pure g_mcheck) fn_mcheck (EnvOk.cons (x := .pure g_isName) fn_isName (EnvOk.cons (x := .fmap g_ixB) fn_ixB (EnvOk.cons (x := .pure g_form) fn_form (EnvOk.cons (x := .pure g_cNodes) fn_cNodes (EnvOk.cons (x := .pure g_dParts) fn_dParts (EnvOk.cons (x := .pure g_cSeams) fn_cSeams (EnvOk.cons (x := .pure g_dPacks) fn_dPacks (EnvOk.cons (x := .pure g_cNeeds) fn_cNeeds (EnvOk.nil _)))))))))
def F_chkF (a0 : TDesign) (a1 : TMaterials) (R : T → Prop) : Prop :=
 callK [(false, Sy.int IntKind.i64)] (g_mcheck [encV true yMaterials a1])
 fun (y0 : Int) =>
 iteP (!decide (y0 = 0)) (R (T.v (Value.int IntKind.i64 y0)))
 (callK [(false, Sy.bool)] (g_isName [T.v (Value.string a0.fst)]) fun (y1 : Bool) =>
 iteP (!y1) (R (T.v (Value.int IntKind.i64 6)))
 (optK (List (ByteArray × Int))
 (g_ixB
 [T.fn 58 [].reverse
 [T.ref
 [T.ref
 [T.sl false (List.map yNeed.enc a0.snd.snd.snd.snd.snd),
 T.sl false (List.map yPackage.enc a0.snd.snd.snd.snd.fst),
 T.sl false (List.map ySeam.enc a0.snd.snd.snd.fst),
 T.sl false (List.map yPart.enc a0.snd.snd.fst),
 T.sl false (List.map yNode.enc a0.snd.fst),
 T.v (Value.string a0.fst)].reverse].reverse].reverse,
 T.v (Value.int IntKind.i64 (↑(List.map yNode.enc a0.snd.fst).length : Int))].reverse)
 fun (y2 : List (ByteArray × Int)) =>
 optK (List (ByteArray × Int))
 (g_ixB
 [T.fn 59 [].reverse
 [T.ref
 [T.ref
 [T.sl false (List.map yNeed.enc a0.snd.snd.snd.snd.snd),
 T.sl false (List.map yPackage.enc a0.snd.snd.snd.snd.fst),
 T.sl false (List.map ySeam.enc a0.snd.snd.snd.fst),
 T.sl false (List.map yPart.enc a0.snd.snd.fst),
 T.sl false (List.map yNode.enc a0.snd.fst),
 T.v (Value.string a0.fst)].reverse].reverse].reverse,
 T.v
 (Value.int IntKind.i64 (↑(List.map yPart.enc a0.snd.snd.fst).length : Int))].reverse)
 fun (y3 : List (ByteArray × Int)) =>
 optK (List (ByteArray × Int))
 (g_ixB
 [T.fn 60 [].reverse
 [T.ref
 [T.ref
 [T.sl false (List.map yNeed.enc a0.snd.snd.snd.snd.snd),
 T.sl false (List.map yPackage.enc a0.snd.snd.snd.snd.fst),
 T.sl false (List.map ySeam.enc a0.snd.snd.snd.fst),
 T.sl false (List.map yPart.enc a0.snd.snd.fst),
 T.sl false (List.map yNode.enc a0.snd.fst),
 T.v (Value.string a0.fst)].reverse].reverse].reverse,
 T.v
 (Value.int IntKind.i64
 (↑(List.map ySeam.enc a0.snd.snd.snd.fst).length : Int))].reverse)
 fun (y4 : List (ByteArray × Int)) =>
 optK (List (ByteArray × Int))
 (g_ixB
 [T.fn 61 [].reverse
 [T.ref
 [T.ref
 [T.sl false (List.map yNeed.enc a0.snd.snd.snd.snd.snd),
 T.sl false (List.map yPackage.enc a0.snd.snd.snd.snd.fst),
 T.sl false (List.map ySeam.enc a0.snd.snd.snd.fst),
 T.sl false (List.map yPart.enc a0.snd.snd.fst),
 T.sl false (List.map yNode.enc a0.snd.fst),
 T.v (Value.string a0.fst)].reverse].reverse].reverse,
 T.v
 (Value.int IntKind.i64
 (↑(List.map yPackage.enc a0.snd.snd.snd.snd.fst).length : Int))].reverse)
 fun (y5 : List (ByteArray × Int)) =>
 callK [(false, Sy.int IntKind.i64)]
 (g_form
 [T.ref
 [T.ref
 [T.v (Value.string a0.fst), T.sl false (List.map yNode.enc a0.snd.fst),
 T.sl false (List.map yPart.enc a0.snd.snd.fst),
 T.sl false (List.map ySeam.enc a0.snd.snd.snd.fst),
 T.sl false (List.map yPackage.enc a0.snd.snd.snd.snd.fst),
 T.sl false (List.map yNeed.enc a0.snd.snd.snd.snd.snd)],
 T.mp (encM y2), T.mp (encM y3), T.mp (encM y4),
 T.mp (encM y5)]])
 fun (y6 : Int) =>
 iteP (!decide (y6 = 0)) (R (T.v (Value.int IntKind.i64 y6)))
 (callK [(false, Sy.int IntKind.i64)]
 (g_cNodes
 [T.ref
 [T.ref
 [T.v (Value.string a0.fst),
 T.sl false (List.map yNode.enc a0.snd.fst),
 T.sl false (List.map yPart.enc a0.snd.snd.fst),
 T.sl false (List.map ySeam.enc a0.snd.snd.snd.fst),
 T.sl false (List.map yPackage.enc a0.snd.snd.snd.snd.fst),
 T.sl false (List.map yNeed.enc a0.snd.snd.snd.snd.snd)],
 T.mp (encM y2), T.mp (encM y3), T.mp (encM y4),
 T.mp (encM y5)]])
 fun (y7 : Int) =>
 iteP (!decide (y7 = 0)) (R (T.v (Value.int IntKind.i64 y7)))
 (callK [(false, Sy.int IntKind.i64)]
 (g_dParts
 [T.ref
 [T.ref
 [T.v (Value.string a0.fst),
 T.sl false (List.map yNode.enc a0.snd.fst),
 T.sl false (List.map yPart.enc a0.snd.snd.fst),
 T.sl false (List.map ySeam.enc a0.snd.snd.snd.fst),
 T.sl false (List.map yPackage.enc a0.snd.snd.snd.snd.fst),
 T.sl false (List.map yNeed.enc a0.snd.snd.snd.snd.snd)],
 T.mp (encM y2), T.mp (encM y3), T.mp (encM y4),
 T.mp (encM y5)],
 encV true yMaterials a1])
 fun (y8 : Int) =>
 iteP (!decide (y8 = 0)) (R (T.v (Value.int IntKind.i64 y8)))
 (callK [(false, Sy.int IntKind.i64)]
 (g_cSeams
 [T.ref
 [T.ref
 [T.v (Value.string a0.fst),
 T.sl false (List.map yNode.enc a0.snd.fst),
 T.sl false (List.map yPart.enc a0.snd.snd.fst),
 T.sl false (List.map ySeam.enc a0.snd.snd.snd.fst),
 T.sl false (List.map yPackage.enc a0.snd.snd.snd.snd.fst),
 T.sl false (List.map yNeed.enc a0.snd.snd.snd.snd.snd)],
 T.mp (encM y2), T.mp (encM y3),
 T.mp (encM y4), T.mp (encM y5)]])
 fun (y9 : Int) =>
 iteP (!decide (y9 = 0)) (R (T.v (Value.int IntKind.i64 y9)))
 (callK [(false, Sy.int IntKind.i64)]
 (g_dPacks
 [T.ref
 [T.ref
 [T.v (Value.string a0.fst),
 T.sl false (List.map yNode.enc a0.snd.fst),
 T.sl false (List.map yPart.enc a0.snd.snd.fst),
 T.sl false (List.map ySeam.enc a0.snd.snd.snd.fst),
 T.sl false (List.map yPackage.enc a0.snd.snd.snd.snd.fst),
 T.sl false (List.map yNeed.enc a0.snd.snd.snd.snd.snd)],
 T.mp (encM y2), T.mp (encM y3),
 T.mp (encM y4), T.mp (encM y5)]])
 fun (y10 : Int) =>
 iteP (!decide (y10 = 0)) (R (T.v (Value.int IntKind.i64 y10)))
 (callK [(false, Sy.int IntKind.i64)]
 (g_cNeeds
 [T.ref
 [T.ref
 [T.v (Value.string a0.fst),
 T.sl false (List.map yNode.enc a0.snd.fst),
 T.sl false (List.map yPart.enc a0.snd.snd.fst),
 T.sl false (List.map ySeam.enc a0.snd.snd.snd.fst),
 T.sl false (List.map yPackage.enc a0.snd.snd.snd.snd.fst),
 T.sl false (List.map yNeed.enc a0.snd.snd.snd.snd.snd)],
 T.mp (encM y2), T.mp (encM y3),
 T.mp (encM y4), T.mp (encM y5)]])
 fun (y11 : Int) => R (T.v (Value.int IntKind.i64 y11)))))))))
theorem F_chkF_eq (a0 : TDesign) (a1 : TMaterials) (R : T → Prop) : sxTop stdC2 Tryz.prog E_chkF H_chkF 8 20 [encV true yDesign a0, encV true yMaterials a1] R = F_chkF a0 a1 R := by kernel_rfl
abbrev s_chkF : Sh := [(true, yDesign), (true, yMaterials)]
abbrev r_chkF : Sh := [(false, Sy.int IntKind.i64)]
theorem r_chkF_call (y : Sh.den r_chkF) (K : Sh.den r_chkF → Prop) : callK r_chkF (some (Sh.enc r_chkF y)) K = K y := callK_enc rfl y K

def chkF (d : TDesign) (m : TMaterials) : Int := if ¬ matE m = 0 then matE m else if isName d.1 = false then 6 else if ¬ formE d = 0 then formE d else if ¬ nodesE d = 0 then nodesE d else if ¬ partsE d m = 0 then partsE d m else if ¬ firstE (seamE d) d.2.2.2.1 = 0 then firstE (seamE d) d.2.2.2.1 else if ¬ packsE d = 0 then packsE d else firstE (needE d) d.2.2.2.2.2
def sp_chkF (x : TDesign × TMaterials) : Option T := some (T.v (Value.int .i64 (chkF x.1 x.2)))
noncomputable def g_chkF : List T → Option (T) := gS s_chkF sp_chkF
theorem g_chkF_at {a0 : TDesign} {a1 : TMaterials} : g_chkF [encV true yDesign a0, encV true yMaterials a1] = sp_chkF (a0, a1) := gS_enc (s := s_chkF) rfl (a0, a1) rfl
theorem g_chkF_op {u0 u1 u2 u3 u4 u5 u6 u7} : g_chkF [T.agg
    [T.v (Value.string u0), T.sl false (List.map yNode.enc u1),
      T.sl false (List.map yPart.enc u2),
      T.sl false (List.map ySeam.enc u3),
      T.sl false (List.map yPackage.enc u4),
      T.sl false (List.map yNeed.enc u5)],
  T.agg [T.sl false (List.map yGrade.enc u6), T.sl false (List.map ySection.enc u7)]] = sp_chkF ((u0, (u1, (u2, (u3, (u4, u5))))), (u6, u7)) := gS_enc (s := s_chkF) rfl ((u0, (u1, (u2, (u3, (u4, u5))))), (u6, u7)) rfl
theorem of_chkF (h : ∀ (a0 : TDesign) (a1 : TMaterials) (r : T), sp_chkF (a0, a1) = some r → BdSh s_chkF (a0, a1) → F_chkF a0 a1 (fun y => y = r)) : PureFn Tryz.prog 20 g_chkF :=
  pureFn_S (E := E_chkF) (Hs := H_chkF) Eok_chkF mixed' plain' (noHeap_of rfl) 8 ⟨_, _, Tryz.func20, rfl⟩ rfl fun x r h1 h2 => by
    obtain ⟨a0, a1⟩ := x
    rw [show Sh.encs s_chkF (a0, a1) = [encV true yDesign a0, encV true yMaterials a1] from rfl, F_chkF_eq]
    exact h a0 a1 r h1 h2

theorem matE_ok {m : TMaterials} (h : matE m = 0) : okM m = true := by
  unfold matE at h
  split at h
  · cases h
  rename_i h1
  split at h
  · rename_i h2; exact absurd h h2
  rename_i h2
  have h2 : firstE (gradeI m) (List.range m.1.length) = 0 := Classical.byContradiction h2
  simp only [okM, Bool.and_eq_true, decide_eq_true_eq, List.all_eq_true]
  refine ⟨⟨by omega, by omega⟩, fun g hg => ?_⟩
  obtain ⟨i, hi, rfl⟩ := List.mem_iff_getElem.1 hg
  have h3 := firstE_zero h2 i (List.mem_range.2 hi)
  unfold gradeI at h3
  rw [getD_at hi] at h3
  have h4 : gradeE m.1[i] = 0 := by
    refine Classical.byContradiction fun hc => ?_
    rw [if_pos hc] at h3
    exact hc h3
  unfold gradeE at h4
  split at h4
  · cases h4
  split at h4
  · cases h4
  split at h4
  · cases h4
  split at h4
  · cases h4
  · omega
theorem cPartsF {d : TDesign} {m : TMaterials} (hs : SmallD d) (hm : okM m = true) : g_dParts (A_dParts d (ixs (ids d.2.1)) (ixs (ids d.2.2.1)) (ixs (ids d.2.2.2.1)) (ixs (ids d.2.2.2.2.1)) m) = some (T.v (Value.int .i64 (partsE d m))) := by
  rw [g_dParts_at]; unfold sp_dParts; dsimp only; rw [hm]; exact onlyT_ok hs _
theorem cPacksF {d : TDesign} (hs : SmallD d) (hk : okPacks d = true) : g_dPacks (A_dPacks d (ixs (ids d.2.1)) (ixs (ids d.2.2.1)) (ixs (ids d.2.2.2.1)) (ixs (ids d.2.2.2.2.1))) = some (T.v (Value.int .i64 (packsE d))) := by
  rw [g_dPacks_at]; unfold sp_dPacks; dsimp only; rw [hk]; exact onlyT_ok hs _
theorem fn_chkF : PureFn Tryz.prog 20 g_chkF := of_chkF fun d m r h hb => by
  cases h
  have hd : BdS yDesign d := hb.1
  have hs : SmallD d := ⟨hd.2.1.1, hd.2.2.1.1, hd.2.2.2.1.1, hd.2.2.2.2.1.1, hd.2.2.2.2.2.1⟩
  have hkl : ∀ k ∈ d.2.2.2.2.1, (kParts k).length ≤ 140737488355328 ∧ (kAfter k).length ≤ 140737488355328 := fun k hk => by
    have h := hd.2.2.2.2.1.2 k hk
    exact ⟨h.2.2.1.1, h.2.2.2.2.1⟩
  clear hd
  have is : ∀ {n : Int}, chkF d m = n → T.v (Value.int IntKind.i64 n) = T.v (Value.int IntKind.i64 (chkF d m)) := fun h => by rw [h]
  unfold F_chkF
  refine callK_some (s := [(false, .int .i64)]) (y := matE m) (g_mcheck_at ..) ?_
  refine ifQ (fun h => is (by unfold chkF; rw [if_pos h])) fun h0 => ?_
  have hm := matE_ok h0
  refine callK_some (s := [(false, .bool)]) (y := isName d.1) g_isName_at ?_
  have n0 : ¬ ¬ matE m = 0 := fun h => h h0
  refine ifNB (fun h => is (by unfold chkF; rw [if_neg n0, if_pos h])) fun hn => ?_
  have n1 : ¬ isName d.1 = false := by rw [hn]; decide
  refine ixK_opt (es := ixs (ids d.2.1)) (by rw [List.length_map]; exact g_ix_1 hs.n) ?_
  refine ixK_opt (es := ixs (ids d.2.2.1)) (by rw [List.length_map]; exact g_ix_2 hs.p) ?_
  refine ixK_opt (es := ixs (ids d.2.2.2.1)) (by rw [List.length_map]; exact g_ix_3 hs.s) ?_
  refine ixK_opt (es := ixs (ids d.2.2.2.2.1)) (by rw [List.length_map]; exact g_ix_4 hs.k) ?_
  refine callK_some (s := [(false, .int .i64)]) (y := formE d) ((g_form_at ..).trans (onlyT_ok hs _)) ?_
  refine ifQ (fun h => is (by unfold chkF; rw [if_neg n0, if_neg n1, if_pos h])) fun h1 => ?_
  have n2 : ¬ ¬ formE d = 0 := fun h => h h1
  have hk : okPacks d = true := by
    simp only [okPacks, Bool.and_eq_true, decide_eq_true_eq, List.all_eq_true]
    refine ⟨hkl, ?_⟩
    have hlong : tooLong d = false := by
      rw [Bool.eq_false_iff]
      intro h
      unfold formE at h1
      rw [if_pos h] at h1
      cases h1
    simp only [tooLong, Bool.or_eq_false_iff, decide_eq_false_iff_not] at hlong
    omega
  refine callK_some (s := [(false, .int .i64)]) (y := nodesE d) ((g_cNodes_at ..).trans (onlyT_ok hs _)) ?_
  refine ifQ (fun h => is (by unfold chkF; rw [if_neg n0, if_neg n1, if_neg n2, if_pos h])) fun h2 => ?_
  have n3 : ¬ ¬ nodesE d = 0 := fun h => h h2
  refine callK_some (s := [(false, .int .i64)]) (y := partsE d m) (cPartsF hs hm) ?_
  refine ifQ (fun h => is (by unfold chkF; rw [if_neg n0, if_neg n1, if_neg n2, if_neg n3, if_pos h])) fun h3 => ?_
  have n4 : ¬ ¬ partsE d m = 0 := fun h => h h3
  refine callK_some (s := [(false, .int .i64)]) (y := firstE (seamE d) d.2.2.2.1) ((g_cSeams_at ..).trans (onlyT_ok hs _)) ?_
  refine ifQ (fun h => is (by unfold chkF; rw [if_neg n0, if_neg n1, if_neg n2, if_neg n3, if_neg n4, if_pos h])) fun h4 => ?_
  have n5 : ¬ ¬ firstE (seamE d) d.2.2.2.1 = 0 := fun h => h h4
  refine callK_some (s := [(false, .int .i64)]) (y := packsE d) (cPacksF hs hk) ?_
  refine ifQ (fun h => is (by unfold chkF; rw [if_neg n0, if_neg n1, if_neg n2, if_neg n3, if_neg n4, if_neg n5, if_pos h])) fun h5 => ?_
  have n6 : ¬ ¬ packsE d = 0 := fun h => h h5
  refine callK_some (s := [(false, .int .i64)]) (y := firstE (needE d) d.2.2.2.2.2) ((g_cNeeds_at ..).trans (onlyT_ok hs _)) ?_
  exact is (by unfold chkF; rw [if_neg n0, if_neg n1, if_neg n2, if_neg n3, if_neg n4, if_neg n5, if_neg n6])
noncomputable def g_chkFD : List T → Option T := gD g_chkF
theorem fn_chkFD : PureFn Tryz.prog 20 g_chkFD := fn_chkF.deep
end Go.Pv
