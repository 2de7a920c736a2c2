/-
  StructureSames: Same answers as the reference does.
-/
import Derived.Test.YtlobonckhdilaaaGreatDoorPqb
set_option linter.unusedSimpArgs false
set_option linter.unusedVariables false
set_option maxRecDepth 100000
namespace Go.Pv
open Go Go.Proofs
noncomputable def sp_equalStr (x : ByteArray × ByteArray) : Option T := some (Sh.enc r_b (eqB x.1 x.2))
noncomputable def sp_equalNode (x : TNode × TNode) : Option T := some (Sh.enc r_b (eqB x.1 x.2))
noncomputable def sp_equalSeam (x : TSeam × TSeam) : Option T := some (Sh.enc r_b (eqB x.1 x.2))
noncomputable def sp_equalNeed (x : TNeed × TNeed) : Option T := some (Sh.enc r_b (eqB x.1 x.2))
noncomputable def sp_slEq (x : List TPoint × List TPoint) : Option T := some (Sh.enc r_b (eqB x.1 x.2))
noncomputable def sp_partSame (x : TPart × TPart) : Option T := some (Sh.enc r_b (eqB x.1 x.2))
noncomputable def sp_packSame (x : TPackage × TPackage) : Option T := some (Sh.enc r_b (eqB x.1 x.2))
noncomputable def sp_desSame (x : TDesign × TDesign) : Option T := some (Sh.enc r_b (eqB x.1 x.2))
noncomputable def sp_desSame17 := sp_desSame
set_option maxRecDepth 100000
noncomputable def E_equalStr : Env := Env.of []
def H_equalStr : FuncId → Hint := fun _ => noHint
theorem Eok_equalStr : EnvOk Tryz.prog E_equalStr := EnvOk.nil _
def F_equalStr (a0 : ByteArray) (a1 : ByteArray) (R : T → Prop) : Prop :=
  R (T.v (Value.bool (decide (a0 = a1))))
theorem F_equalStr_eq (a0 : ByteArray) (a1 : ByteArray) (R : T → Prop) : sxTop stdC2 Tryz.prog E_equalStr H_equalStr 8 64 [encV false Sy.str a0, encV false Sy.str a1] R = F_equalStr a0 a1 R := by kernel_rfl
abbrev s_equalStr : Sh := [(false, Sy.str), (false, Sy.str)]
abbrev r_equalStr : Sh := [(false, Sy.bool)]
theorem r_equalStr_call (y : Sh.den r_equalStr) (K : Sh.den r_equalStr → Prop) : callK r_equalStr (some (Sh.enc r_equalStr y)) K = K y := callK_enc rfl y K

noncomputable def g_equalStr : List T → Option (T) := gS s_equalStr sp_equalStr
theorem g_equalStr_at {a0 : ByteArray} {a1 : ByteArray} : g_equalStr [T.v (Value.string a0), T.v (Value.string a1)] = sp_equalStr (a0, a1) := gS_enc (s := s_equalStr) rfl (a0, a1) rfl
theorem g_equalStr_op {u0 u1} : g_equalStr [T.v (Value.string u0), T.v (Value.string u1)] = sp_equalStr (u0, u1) := gS_enc (s := s_equalStr) rfl (u0, u1) rfl
theorem of_equalStr (h : ∀ (a0 : ByteArray) (a1 : ByteArray) (r : T), sp_equalStr (a0, a1) = some r → BdSh s_equalStr (a0, a1) → F_equalStr a0 a1 (fun y => y = r)) : PureFn Tryz.prog 64 g_equalStr :=
  pureFn_S (E := E_equalStr) (Hs := H_equalStr) Eok_equalStr mixed' plain' (noHeap_of rfl) 8 ⟨_, _, Tryz.func64, rfl⟩ rfl fun x r h1 h2 => by
    obtain ⟨a0, a1⟩ := x
    rw [show Sh.encs s_equalStr (a0, a1) = [encV false Sy.str a0, encV false Sy.str a1] from rfl, F_equalStr_eq]
    exact h a0 a1 r h1 h2

theorem fn_equalStr : PureFn Tryz.prog 64 g_equalStr := of_equalStr fun a b r h hb => by
  cases h
  unfold F_equalStr
  show T.v (Value.bool _) = T.v (Value.bool (eqB a b))
  congr 2
  rw [Bool.eq_iff_iff, eqB_iff]
  simp only [Bool.and_true, Bool.and_eq_true, decide_eq_true_eq, Prod.ext_iff, and_assoc]
set_option maxRecDepth 100000
noncomputable def E_equalNode : Env := Env.of []
def H_equalNode : FuncId → Hint := fun _ => noHint
theorem Eok_equalNode : EnvOk Tryz.prog E_equalNode := EnvOk.nil _
def F_equalNode (a0 : TNode) (a1 : TNode) (R : T → Prop) : Prop :=
  R
  (T.v
    (Value.bool
      (decide (a0.fst = a1.fst) && (decide (a0.snd.fst = a1.snd.fst) && (decide (a0.snd.snd = a1.snd.snd) && true)))))
theorem F_equalNode_eq (a0 : TNode) (a1 : TNode) (R : T → Prop) : sxTop stdC2 Tryz.prog E_equalNode H_equalNode 8 37 [encV true yNode a0, encV true yNode a1] R = F_equalNode a0 a1 R := by kernel_rfl
abbrev s_equalNode : Sh := [(true, yNode), (true, yNode)]
abbrev r_equalNode : Sh := [(false, Sy.bool)]
theorem r_equalNode_call (y : Sh.den r_equalNode) (K : Sh.den r_equalNode → Prop) : callK r_equalNode (some (Sh.enc r_equalNode y)) K = K y := callK_enc rfl y K

noncomputable def g_equalNode : List T → Option (T) := gS s_equalNode sp_equalNode
theorem g_equalNode_at {a0 : TNode} {a1 : TNode} : g_equalNode [encV true yNode a0, encV true yNode a1] = sp_equalNode (a0, a1) := gS_enc (s := s_equalNode) rfl (a0, a1) rfl
theorem g_equalNode_op {u0 u1 u2 u3 u4 u5} : g_equalNode [T.agg
    [T.v (Value.string u0), T.v (Value.int IntKind.i64 u1),
      T.v (Value.string u2)],
  T.agg
    [T.v (Value.string u3), T.v (Value.int IntKind.i64 u4),
      T.v (Value.string u5)]] = sp_equalNode ((u0, (u1, u2)), (u3, (u4, u5))) := gS_enc (s := s_equalNode) rfl ((u0, (u1, u2)), (u3, (u4, u5))) rfl
theorem of_equalNode (h : ∀ (a0 : TNode) (a1 : TNode) (r : T), sp_equalNode (a0, a1) = some r → BdSh s_equalNode (a0, a1) → F_equalNode a0 a1 (fun y => y = r)) : PureFn Tryz.prog 37 g_equalNode :=
  pureFn_S (E := E_equalNode) (Hs := H_equalNode) Eok_equalNode mixed' plain' (noHeap_of rfl) 8 ⟨_, _, Tryz.func37, rfl⟩ rfl fun x r h1 h2 => by
    obtain ⟨a0, a1⟩ := x
    rw [show Sh.encs s_equalNode (a0, a1) = [encV true yNode a0, encV true yNode a1] from rfl, F_equalNode_eq]
    exact h a0 a1 r h1 h2

theorem fn_equalNode : PureFn Tryz.prog 37 g_equalNode := of_equalNode fun a b r h hb => by
  cases h
  unfold F_equalNode
  show T.v (Value.bool _) = T.v (Value.bool (eqB a b))
  congr 2
  rw [Bool.eq_iff_iff, eqB_iff]
  simp only [Bool.and_true, Bool.and_eq_true, decide_eq_true_eq, Prod.ext_iff, and_assoc]
set_option maxRecDepth 100000
noncomputable def E_equalSeam : Env := Env.of []
def H_equalSeam : FuncId → Hint := fun _ => noHint
theorem Eok_equalSeam : EnvOk Tryz.prog E_equalSeam := EnvOk.nil _
def F_equalSeam (a0 : TSeam) (a1 : TSeam) (R : T → Prop) : Prop :=
  R
  (T.v
    (Value.bool
      (decide (a0.fst = a1.fst) &&
        (decide (a0.snd.fst = a1.snd.fst) &&
          (decide (a0.snd.snd.fst = a1.snd.snd.fst) &&
            (decide (a0.snd.snd.snd.fst = a1.snd.snd.snd.fst) &&
              (decide (a0.snd.snd.snd.snd.fst = a1.snd.snd.snd.snd.fst) &&
                (decide (a0.snd.snd.snd.snd.snd = a1.snd.snd.snd.snd.snd) && true))))))))
theorem F_equalSeam_eq (a0 : TSeam) (a1 : TSeam) (R : T → Prop) : sxTop stdC2 Tryz.prog E_equalSeam H_equalSeam 8 41 [encV true ySeam a0, encV true ySeam a1] R = F_equalSeam a0 a1 R := by kernel_rfl
abbrev s_equalSeam : Sh := [(true, ySeam), (true, ySeam)]
abbrev r_equalSeam : Sh := [(false, Sy.bool)]
theorem r_equalSeam_call (y : Sh.den r_equalSeam) (K : Sh.den r_equalSeam → Prop) : callK r_equalSeam (some (Sh.enc r_equalSeam y)) K = K y := callK_enc rfl y K

noncomputable def g_equalSeam : List T → Option (T) := gS s_equalSeam sp_equalSeam
theorem g_equalSeam_at {a0 : TSeam} {a1 : TSeam} : g_equalSeam [encV true ySeam a0, encV true ySeam a1] = sp_equalSeam (a0, a1) := gS_enc (s := s_equalSeam) rfl (a0, a1) rfl
theorem g_equalSeam_op {u0 u1 u2 u3 u4 u5 u6 u7 u8 u9 u10 u11} : g_equalSeam [T.agg
    [T.v (Value.string u0), T.v (Value.string u1),
      T.v (Value.string u2), T.v (Value.int IntKind.i64 u3),
      T.v (Value.int IntKind.i64 u4),
      T.v (Value.int IntKind.i64 u5)],
  T.agg
    [T.v (Value.string u6), T.v (Value.string u7),
      T.v (Value.string u8), T.v (Value.int IntKind.i64 u9),
      T.v (Value.int IntKind.i64 u10),
      T.v (Value.int IntKind.i64 u11)]] = sp_equalSeam ((u0, (u1, (u2, (u3, (u4, u5))))), (u6, (u7, (u8, (u9, (u10, u11)))))) := gS_enc (s := s_equalSeam) rfl ((u0, (u1, (u2, (u3, (u4, u5))))), (u6, (u7, (u8, (u9, (u10, u11)))))) rfl
theorem of_equalSeam (h : ∀ (a0 : TSeam) (a1 : TSeam) (r : T), sp_equalSeam (a0, a1) = some r → BdSh s_equalSeam (a0, a1) → F_equalSeam a0 a1 (fun y => y = r)) : PureFn Tryz.prog 41 g_equalSeam :=
  pureFn_S (E := E_equalSeam) (Hs := H_equalSeam) Eok_equalSeam mixed' plain' (noHeap_of rfl) 8 ⟨_, _, Tryz.func41, rfl⟩ rfl fun x r h1 h2 => by
    obtain ⟨a0, a1⟩ := x
    rw [show Sh.encs s_equalSeam (a0, a1) = [encV true ySeam a0, encV true ySeam a1] from rfl, F_equalSeam_eq]
    exact h a0 a1 r h1 h2

theorem fn_equalSeam : PureFn Tryz.prog 41 g_equalSeam := of_equalSeam fun a b r h hb => by
  cases h
  unfold F_equalSeam
  show T.v (Value.bool _) = T.v (Value.bool (eqB a b))
  congr 2
  rw [Bool.eq_iff_iff, eqB_iff]
  simp only [Bool.and_true, Bool.and_eq_true, decide_eq_true_eq, Prod.ext_iff, and_assoc]
set_option maxRecDepth 100000
noncomputable def E_equalNeed : Env := Env.of []
def H_equalNeed : FuncId → Hint := fun _ => noHint
theorem Eok_equalNeed : EnvOk Tryz.prog E_equalNeed := EnvOk.nil _
def F_equalNeed (a0 : TNeed) (a1 : TNeed) (R : T → Prop) : Prop :=
  R
  (T.v
    (Value.bool
      (decide (a0.fst = a1.fst) && (decide (a0.snd.fst = a1.snd.fst) && (decide (a0.snd.snd = a1.snd.snd) && true)))))
theorem F_equalNeed_eq (a0 : TNeed) (a1 : TNeed) (R : T → Prop) : sxTop stdC2 Tryz.prog E_equalNeed H_equalNeed 8 45 [encV true yNeed a0, encV true yNeed a1] R = F_equalNeed a0 a1 R := by kernel_rfl
abbrev s_equalNeed : Sh := [(true, yNeed), (true, yNeed)]
abbrev r_equalNeed : Sh := [(false, Sy.bool)]
theorem r_equalNeed_call (y : Sh.den r_equalNeed) (K : Sh.den r_equalNeed → Prop) : callK r_equalNeed (some (Sh.enc r_equalNeed y)) K = K y := callK_enc rfl y K

noncomputable def g_equalNeed : List T → Option (T) := gS s_equalNeed sp_equalNeed
theorem g_equalNeed_at {a0 : TNeed} {a1 : TNeed} : g_equalNeed [encV true yNeed a0, encV true yNeed a1] = sp_equalNeed (a0, a1) := gS_enc (s := s_equalNeed) rfl (a0, a1) rfl
theorem g_equalNeed_op {u0 u1 u2 u3 u4 u5} : g_equalNeed [T.agg
    [T.v (Value.int IntKind.i64 u0), T.v (Value.string u1),
      T.v (Value.string u2)],
  T.agg
    [T.v (Value.int IntKind.i64 u3), T.v (Value.string u4),
      T.v (Value.string u5)]] = sp_equalNeed ((u0, (u1, u2)), (u3, (u4, u5))) := gS_enc (s := s_equalNeed) rfl ((u0, (u1, u2)), (u3, (u4, u5))) rfl
theorem of_equalNeed (h : ∀ (a0 : TNeed) (a1 : TNeed) (r : T), sp_equalNeed (a0, a1) = some r → BdSh s_equalNeed (a0, a1) → F_equalNeed a0 a1 (fun y => y = r)) : PureFn Tryz.prog 45 g_equalNeed :=
  pureFn_S (E := E_equalNeed) (Hs := H_equalNeed) Eok_equalNeed mixed' plain' (noHeap_of rfl) 8 ⟨_, _, Tryz.func45, rfl⟩ rfl fun x r h1 h2 => by
    obtain ⟨a0, a1⟩ := x
    rw [show Sh.encs s_equalNeed (a0, a1) = [encV true yNeed a0, encV true yNeed a1] from rfl, F_equalNeed_eq]
    exact h a0 a1 r h1 h2

theorem fn_equalNeed : PureFn Tryz.prog 45 g_equalNeed := of_equalNeed fun a b r h hb => by
  cases h
  unfold F_equalNeed
  show T.v (Value.bool _) = T.v (Value.bool (eqB a b))
  congr 2
  rw [Bool.eq_iff_iff, eqB_iff]
  simp only [Bool.and_true, Bool.and_eq_true, decide_eq_true_eq, Prod.ext_iff, and_assoc]
set_option maxRecDepth 100000
noncomputable def E_slEq : Env := Env.of []
def H_slEq : FuncId → Hint := fun f => match f == 61 with | true => ⟨fun r => match r == 4 with | true => .inv [.val 13 false (.int .i64)] | false => .none, fun _ _ => none, fun _ => none⟩ | false => noHint
theorem Eok_slEq : EnvOk Tryz.prog E_slEq := EnvOk.nil _
def F_slEq (a0 : List TPoint) (a1 : List TPoint) (R : T → Prop) : Prop :=
  iteP (!decide ((↑(List.map yPoint.enc a0).length : Int) = (↑(List.map yPoint.enc a1).length : Int)))
  (R (T.v (Value.bool false)))
  (loopK (Int × PUnit)
    (fun (X0 : Int × PUnit → Prop) (s1 : Int × PUnit) =>
      iteP (decide (s1.fst < (↑(List.map yPoint.enc a0).length : Int)))
        (rowsK yPoint (List.map yPoint.enc a0) s1.fst fun (y2 : TPoint) =>
          rowsK yPoint (List.map yPoint.enc a1) s1.fst fun (y3 : TPoint) =>
            iteP (!(decide (y2.fst = y3.fst) && (decide (y2.snd = y3.snd) && true)))
              (R (T.v (Value.bool false))) (X0 (IntKind.i64.wrap (s1.fst + 1), ())))
        (R (T.v (Value.bool true))))
    (0, ()))
theorem F_slEq_eq (a0 : List TPoint) (a1 : List TPoint) (R : T → Prop) : sxTop stdC2 Tryz.prog E_slEq H_slEq 8 61 [encV false yPoint.li a0, encV false yPoint.li a1] R = F_slEq a0 a1 R := by kernel_rfl
abbrev s_slEq : Sh := [(false, yPoint.li), (false, yPoint.li)]
abbrev r_slEq : Sh := [(false, Sy.bool)]
theorem r_slEq_call (y : Sh.den r_slEq) (K : Sh.den r_slEq → Prop) : callK r_slEq (some (Sh.enc r_slEq y)) K = K y := callK_enc rfl y K

noncomputable def g_slEq : List T → Option (T) := gS s_slEq sp_slEq
theorem g_slEq_at {a0 : List TPoint} {a1 : List TPoint} : g_slEq [T.sl false (List.map yPoint.enc a0), T.sl false (List.map yPoint.enc a1)] = sp_slEq (a0, a1) := gS_enc (s := s_slEq) rfl (a0, a1) rfl
theorem g_slEq_op {u0 u1} : g_slEq [T.sl false (List.map yPoint.enc u0), T.sl false (List.map yPoint.enc u1)] = sp_slEq (u0, u1) := gS_enc (s := s_slEq) rfl (u0, u1) rfl
theorem of_slEq (h : ∀ (a0 : List TPoint) (a1 : List TPoint) (r : T), sp_slEq (a0, a1) = some r → BdSh s_slEq (a0, a1) → F_slEq a0 a1 (fun y => y = r)) : PureFn Tryz.prog 61 g_slEq :=
  pureFn_S (E := E_slEq) (Hs := H_slEq) Eok_slEq mixed' plain' (noHeap_of rfl) 8 ⟨_, _, Tryz.func61, rfl⟩ rfl fun x r h1 h2 => by
    obtain ⟨a0, a1⟩ := x
    rw [show Sh.encs s_slEq (a0, a1) = [encV false yPoint.li a0, encV false yPoint.li a1] from rfl, F_slEq_eq]
    exact h a0 a1 r h1 h2

theorem fn_slEq : PureFn Tryz.prog 61 g_slEq := of_slEq fun a b r h hb => by
  cases h
  unfold F_slEq
  refine same_all (r := yPoint) (R := fun y => y = Sh.enc r_b (eqB a b)) hb.1.1 _ (fun x y => ?_) rfl
  simp only [Bool.and_true, Bool.and_eq_true, decide_eq_true_eq, Prod.ext_iff]
theorem iteP_nb {c : Bool} {A B : Prop} (h1 : c = false → A) (h2 : c = true → B) : iteP (!c) A B := by cases c with
  | true => exact h2 rfl
  | false => exact h1 rfl
theorem iteP_b {c : Bool} {A B : Prop} (h1 : c = true → A) (h2 : c = false → B) : iteP c A B := by cases c with
  | true => exact h1 rfl
  | false => exact h2 rfl
/-- A loop that compares two lists; what follows. -/
theorem cmp_loop {r : Sy} {l m : List r.den} (hlen : l.length = m.length) (hl : l.length ≤ 2 ^ 47) (test : r.den → r.den → Bool) (ht : ∀ x y, test x y = true ↔ x = y) {N Y : Prop} (hY : l = m → Y) (hN : ¬ l = m → N) :
    loopK (Int × PUnit) (fun (X : Int × PUnit → Prop) (s : Int × PUnit) => iteP (decide (s.fst < (↑(List.map r.enc l).length : Int))) (rowsK r (List.map r.enc l) s.fst fun y => rowsK r (List.map r.enc m) s.fst fun z => iteP (!(test y z)) N (X (IntKind.i64.wrap (s.fst + 1), ()))) Y) (0, ()) := by
  refine loopK_ix l.length (fun k s => s = ((k : Int), ()) ∧ (l = m ↔ l.drop k = m.drop k)) ⟨rfl, by simp⟩ ?_
  rintro X k s hk ⟨rfl, he⟩ hX
  dsimp only
  by_cases hlt : k < l.length
  · have hlt2 : k < m.length := by omega
    refine iteP_yes (by simp [hlt]) ?_
    rw [rowsK_at hlt, rowsK_at hlt2]
    rw [List.drop_eq_getElem_cons hlt, List.drop_eq_getElem_cons hlt2, List.cons.injEq] at he
    refine iteP_nb (fun h => hN fun e => ?_) fun h => ?_
    · rw [(ht _ _).2 (he.1 e).1] at h; cases h
    · have h1 := (ht _ _).1 h
      refine hX _ hlt ⟨by rw [show IntKind.i64.wrap ((k : Int) + 1) = ((k + 1 : Nat) : Int) from wrap_id _ (by omega) (by omega)], ?_⟩
      rw [he]; exact ⟨fun h => h.2, fun h => ⟨h1, h⟩⟩
  · have : k = l.length := by omega
    subst this
    refine iteP_no (by simp) ?_
    exact hY (he.2 (by rw [List.drop_length, hlen, List.drop_length]))
theorem len_of {α β : Type} {f : α → β} {l m : List α} (h : decide ((↑(List.map f l).length : Int) = (↑(List.map f m).length : Int)) = true) : l.length = m.length := by simp at h; omega
theorem cmp_all {r : Sy} {l m : List r.den} (hl : l.length ≤ 2 ^ 47) (test : r.den → r.den → Bool) (ht : ∀ x y, test x y = true ↔ x = y) {N Y : Prop} (hY : l = m → Y) (hN : ¬ l = m → N) :
    iteP (!decide ((↑(List.map r.enc l).length : Int) = (↑(List.map r.enc m).length : Int))) N (loopK (Int × PUnit) (fun (X : Int × PUnit → Prop) (s : Int × PUnit) => iteP (decide (s.fst < (↑(List.map r.enc l).length : Int))) (rowsK r (List.map r.enc l) s.fst fun y => rowsK r (List.map r.enc m) s.fst fun z => iteP (!(test y z)) N (X (IntKind.i64.wrap (s.fst + 1), ()))) Y) (0, ())) :=
  iteP_nb (fun h => hN fun e => by simp [e] at h) fun h => cmp_loop (len_of h) hl test ht hY hN
set_option maxRecDepth 100000
noncomputable def E_partSame : Env := Env.of [(61, .pure g_slEq)]
def H_partSame : FuncId → Hint := fun f => match f == 62 with | true => ⟨fun r => match r == 4 with | true => .inv [.val 17 false (.int .i64)] | false => .none, fun _ _ => none, fun _ => none⟩ | false => noHint
theorem Eok_partSame : EnvOk Tryz.prog E_partSame := EnvOk.cons (x := .pure g_slEq) fn_slEq (EnvOk.nil _)
def F_partSame (a0 : TPart) (a1 : TPart) (R : T → Prop) : Prop :=
  iteP (!decide (a0.fst = a1.fst)) (R (T.v (Value.bool false)))
  (iteP (!decide (a0.snd.fst = a1.snd.fst)) (R (T.v (Value.bool false)))
    (iteP (!decide (a0.snd.snd.fst = a1.snd.snd.fst)) (R (T.v (Value.bool false)))
      (iteP (!decide (a0.snd.snd.snd.fst = a1.snd.snd.snd.fst)) (R (T.v (Value.bool false)))
        (iteP (!decide (a0.snd.snd.snd.snd.fst = a1.snd.snd.snd.snd.fst)) (R (T.v (Value.bool false)))
          (iteP (!decide (a0.snd.snd.snd.snd.snd.fst = a1.snd.snd.snd.snd.snd.fst))
            (R (T.v (Value.bool false)))
            (iteP (!decide (a0.snd.snd.snd.snd.snd.snd.snd.fst = a1.snd.snd.snd.snd.snd.snd.snd.fst))
              (R (T.v (Value.bool false)))
              (iteP (!decide (a0.snd.snd.snd.snd.snd.snd.snd.snd.fst = a1.snd.snd.snd.snd.snd.snd.snd.snd.fst))
                (R (T.v (Value.bool false)))
                (iteP
                  (!decide (a0.snd.snd.snd.snd.snd.snd.snd.snd.snd.fst = a1.snd.snd.snd.snd.snd.snd.snd.snd.snd.fst))
                  (R (T.v (Value.bool false)))
                  (iteP
                    (!(decide
                          (a0.snd.snd.snd.snd.snd.snd.snd.snd.snd.snd.fst.fst =
                            a1.snd.snd.snd.snd.snd.snd.snd.snd.snd.snd.fst.fst) &&
                        (decide
                            (a0.snd.snd.snd.snd.snd.snd.snd.snd.snd.snd.fst.snd.fst =
                              a1.snd.snd.snd.snd.snd.snd.snd.snd.snd.snd.fst.snd.fst) &&
                          (decide
                              (a0.snd.snd.snd.snd.snd.snd.snd.snd.snd.snd.fst.snd.snd =
                                a1.snd.snd.snd.snd.snd.snd.snd.snd.snd.snd.fst.snd.snd) &&
                            true))))
                    (R (T.v (Value.bool false)))
                    (iteP
                      (!(decide
                              (a0.snd.snd.snd.snd.snd.snd.snd.snd.snd.snd.snd.fst.fst =
                                a1.snd.snd.snd.snd.snd.snd.snd.snd.snd.snd.snd.fst.fst) &&
                            (decide
                                (a0.snd.snd.snd.snd.snd.snd.snd.snd.snd.snd.snd.fst.snd.fst =
                                  a1.snd.snd.snd.snd.snd.snd.snd.snd.snd.snd.snd.fst.snd.fst) &&
                              (decide
                                  (a0.snd.snd.snd.snd.snd.snd.snd.snd.snd.snd.snd.fst.snd.snd =
                                    a1.snd.snd.snd.snd.snd.snd.snd.snd.snd.snd.snd.fst.snd.snd) &&
                                true)) &&
                          (decide
                              (a0.snd.snd.snd.snd.snd.snd.snd.snd.snd.snd.snd.snd =
                                a1.snd.snd.snd.snd.snd.snd.snd.snd.snd.snd.snd.snd) &&
                            true)))
                      (R (T.v (Value.bool false)))
                      (callK [(false, Sy.bool)]
                        (g_slEq
                          [T.sl false (List.map yPoint.enc a0.snd.snd.snd.snd.snd.snd.fst.fst),
                            T.sl false (List.map yPoint.enc a1.snd.snd.snd.snd.snd.snd.fst.fst)])
                        fun (y0 : Bool) =>
                        iteP y0
                          (iteP
                            (!decide
                                ((↑(List.map yPoint.li.enc a0.snd.snd.snd.snd.snd.snd.fst.snd).length : Int) =
                                  (↑(List.map yPoint.li.enc a1.snd.snd.snd.snd.snd.snd.fst.snd).length : Int)))
                            (R (T.v (Value.bool false)))
                            (loopK (Int × PUnit)
                              (fun (X1 : Int × PUnit → Prop) (s2 : Int × PUnit) =>
                                iteP
                                  (decide
                                    (s2.fst <
                                      (↑(List.map yPoint.li.enc a0.snd.snd.snd.snd.snd.snd.fst.snd).length :
                                        Int)))
                                  (rowsK yPoint.li
                                    (List.map yPoint.li.enc a0.snd.snd.snd.snd.snd.snd.fst.snd) s2.fst
                                    fun (y3 : List TPoint) =>
                                    rowsK yPoint.li
                                      (List.map yPoint.li.enc a1.snd.snd.snd.snd.snd.snd.fst.snd) s2.fst
                                      fun (y4 : List TPoint) =>
                                      callK [(false, Sy.bool)]
                                        (g_slEq
                                          [T.sl false (List.map yPoint.enc y3),
                                            T.sl false (List.map yPoint.enc y4)])
                                        fun (y5 : Bool) =>
                                        iteP (!y5) (R (T.v (Value.bool false)))
                                          (X1 (IntKind.i64.wrap (s2.fst + 1), ())))
                                  (R (T.v (Value.bool true))))
                              (0, ())))
                          (R (T.v (Value.bool false))))))))))))))
theorem F_partSame_eq (a0 : TPart) (a1 : TPart) (R : T → Prop) : sxTop stdC2 Tryz.prog E_partSame H_partSame 8 39 [encV true yPart a0, encV true yPart a1] R = F_partSame a0 a1 R := by kernel_rfl
abbrev s_partSame : Sh := [(true, yPart), (true, yPart)]
abbrev r_partSame : Sh := [(false, Sy.bool)]
theorem r_partSame_call (y : Sh.den r_partSame) (K : Sh.den r_partSame → Prop) : callK r_partSame (some (Sh.enc r_partSame y)) K = K y := callK_enc rfl y K

noncomputable def g_partSame : List T → Option (T) := gS s_partSame sp_partSame
theorem g_partSame_at {a0 : TPart} {a1 : TPart} : g_partSame [encV true yPart a0, encV true yPart a1] = sp_partSame (a0, a1) := gS_enc (s := s_partSame) rfl (a0, a1) rfl
theorem g_partSame_op {u0 u1 u2 u3 u4 u5 u6 u7 u8 u9 u10 u11 u12 u13 u14 u15 u16 u17 u18 u19 u20 u21 u22 u23 u24 u25 u26 u27 u28 u29 u30 u31 u32 u33 u34 u35} : g_partSame [T.agg
    [T.v (Value.string u0), T.v (Value.int IntKind.i64 u1),
      T.v (Value.int IntKind.i64 u2), T.v (Value.string u3),
      T.v (Value.string u4),
      T.v (Value.int IntKind.i64 u5),
      T.sl false (List.map yPoint.enc u6),
      T.sl false (List.map yPoint.li.enc u7),
      T.v (Value.string u8),
      T.v (Value.int IntKind.i64 u9),
      T.v (Value.int IntKind.i64 u10),
      T.v (Value.int IntKind.i64 u11),
      T.v (Value.int IntKind.i64 u12),
      T.v (Value.int IntKind.i64 u13),
      T.v (Value.int IntKind.i64 u14),
      T.v (Value.int IntKind.i64 u15),
      T.v (Value.int IntKind.i64 u16),
      T.v (Value.int IntKind.i64 u17)],
  T.agg
    [T.v (Value.string u18), T.v (Value.int IntKind.i64 u19),
      T.v (Value.int IntKind.i64 u20), T.v (Value.string u21),
      T.v (Value.string u22),
      T.v (Value.int IntKind.i64 u23),
      T.sl false (List.map yPoint.enc u24),
      T.sl false (List.map yPoint.li.enc u25),
      T.v (Value.string u26),
      T.v (Value.int IntKind.i64 u27),
      T.v (Value.int IntKind.i64 u28),
      T.v (Value.int IntKind.i64 u29),
      T.v (Value.int IntKind.i64 u30),
      T.v (Value.int IntKind.i64 u31),
      T.v (Value.int IntKind.i64 u32),
      T.v (Value.int IntKind.i64 u33),
      T.v (Value.int IntKind.i64 u34),
      T.v (Value.int IntKind.i64 u35)]] = sp_partSame ((u0, (u1, (u2, (u3, (u4, (u5, ((u6, u7), (u8, (u9, (u10, ((u11, (u12, u13)), ((u14, (u15, u16)), u17)))))))))))), (u18, (u19, (u20, (u21, (u22, (u23, ((u24, u25), (u26, (u27, (u28, ((u29, (u30, u31)), ((u32, (u33, u34)), u35))))))))))))) := gS_enc (s := s_partSame) rfl ((u0, (u1, (u2, (u3, (u4, (u5, ((u6, u7), (u8, (u9, (u10, ((u11, (u12, u13)), ((u14, (u15, u16)), u17)))))))))))), (u18, (u19, (u20, (u21, (u22, (u23, ((u24, u25), (u26, (u27, (u28, ((u29, (u30, u31)), ((u32, (u33, u34)), u35))))))))))))) rfl
theorem of_partSame (h : ∀ (a0 : TPart) (a1 : TPart) (r : T), sp_partSame (a0, a1) = some r → BdSh s_partSame (a0, a1) → F_partSame a0 a1 (fun y => y = r)) : PureFn Tryz.prog 39 g_partSame :=
  pureFn_S (E := E_partSame) (Hs := H_partSame) Eok_partSame mixed' plain' (noHeap_of rfl) 8 ⟨_, _, Tryz.func39, rfl⟩ rfl fun x r h1 h2 => by
    obtain ⟨a0, a1⟩ := x
    rw [show Sh.encs s_partSame (a0, a1) = [encV true yPart a0, encV true yPart a1] from rfl, F_partSame_eq]
    exact h a0 a1 r h1 h2

theorem fn_partSame : PureFn Tryz.prog 39 g_partSame := of_partSame fun a b r h hb => by
  cases h
  have no : ¬ a = b → T.v (Value.bool false) = Sh.enc r_b (eqB a b) := fun h => by rw [eqB_no h]; rfl
  have yes : a = b → T.v (Value.bool true) = Sh.enc r_b (eqB a b) := fun h => by rw [eqB_iff.2 h]; rfl
  have hl : a.2.2.2.2.2.2.1.2.length ≤ 2 ^ 47 := hb.1.2.2.2.2.2.2.1.2.1
  unfold F_partSame
  have u := @g_slEq_at
  simp only [u, sp_slEq, r_b_call]
  refine iteP_nb (fun h => no fun e => by simp [e] at h) fun h1 => ?_
  refine iteP_nb (fun h => no fun e => by simp [e] at h) fun h2 => ?_
  refine iteP_nb (fun h => no fun e => by simp [e] at h) fun h3 => ?_
  refine iteP_nb (fun h => no fun e => by simp [e] at h) fun h4 => ?_
  refine iteP_nb (fun h => no fun e => by simp [e] at h) fun h5 => ?_
  refine iteP_nb (fun h => no fun e => by simp [e] at h) fun h6 => ?_
  refine iteP_nb (fun h => no fun e => by simp [e] at h) fun h7 => ?_
  refine iteP_nb (fun h => no fun e => by simp [e] at h) fun h8 => ?_
  refine iteP_nb (fun h => no fun e => by simp [e] at h) fun h9 => ?_
  refine iteP_nb (fun h => no fun e => by simp [e] at h) fun h10 => ?_
  refine iteP_nb (fun h => no fun e => by simp [e] at h) fun h11 => ?_
  refine iteP_b (fun h12 => ?_) (fun h => no fun e => by simp [e] at h)
  refine cmp_all (r := .li yPoint) hl _ (fun x y => eqB_iff) (fun h13 => yes ?_) (fun h => no fun e => h (by rw [e]))
  simp only [Bool.and_true, Bool.and_eq_true, decide_eq_true_eq, eqB_iff] at h1 h2 h3 h4 h5 h6 h7 h8 h9 h10 h11 h12
  simp only [Prod.ext_iff]
  exact ⟨h1, h2, h3, h4, h5, h6, ⟨h12, h13⟩, h7, h8, h9, h10, h11⟩
set_option maxRecDepth 100000
noncomputable def E_packSame : Env := Env.of [(64, .pure g_equalStr)]
def H_packSame : FuncId → Hint := fun f => match f == 63 with | true => ⟨fun r => match r == 4 with | true => .inv [.val 15 false (.int .i64)] | false => .none, fun _ _ => none, fun _ => none⟩ | false => noHint
theorem Eok_packSame : EnvOk Tryz.prog E_packSame := EnvOk.cons (x := .pure g_equalStr) fn_equalStr (EnvOk.nil _)
def F_packSame (a0 : TPackage) (a1 : TPackage) (R : T → Prop) : Prop :=
  iteP (decide (a0.fst = a1.fst))
  (iteP (decide (a0.snd.fst = a1.snd.fst))
    (iteP (decide (a0.snd.snd.snd.fst = a1.snd.snd.snd.fst))
      (iteP
        (!decide
            ((↑(List.map Sy.str.enc a0.snd.snd.fst).length : Int) =
              (↑(List.map Sy.str.enc a1.snd.snd.fst).length : Int)))
        (R (T.v (Value.bool false)))
        (loopK (Int × PUnit)
          (fun (X0 : Int × PUnit → Prop) (s1 : Int × PUnit) =>
            iteP (decide (s1.fst < (↑(List.map Sy.str.enc a0.snd.snd.fst).length : Int)))
              (rowsK Sy.str (List.map Sy.str.enc a0.snd.snd.fst) s1.fst fun (y2 : ByteArray) =>
                rowsK Sy.str (List.map Sy.str.enc a1.snd.snd.fst) s1.fst fun (y3 : ByteArray) =>
                  callK [(false, Sy.bool)]
                    (g_equalStr [T.v (Value.string y2), T.v (Value.string y3)])
                    fun (y4 : Bool) =>
                    iteP (!y4) (R (T.v (Value.bool false))) (X0 (IntKind.i64.wrap (s1.fst + 1), ())))
              (iteP
                (!decide
                    ((↑(List.map Sy.str.enc a0.snd.snd.snd.snd).length : Int) =
                      (↑(List.map Sy.str.enc a1.snd.snd.snd.snd).length : Int)))
                (R (T.v (Value.bool false)))
                (loopK (Int × PUnit)
                  (fun (X5 : Int × PUnit → Prop) (s6 : Int × PUnit) =>
                    iteP (decide (s6.fst < (↑(List.map Sy.str.enc a0.snd.snd.snd.snd).length : Int)))
                      (rowsK Sy.str (List.map Sy.str.enc a0.snd.snd.snd.snd) s6.fst
                        fun (y7 : ByteArray) =>
                        rowsK Sy.str (List.map Sy.str.enc a1.snd.snd.snd.snd) s6.fst
                          fun (y8 : ByteArray) =>
                          callK [(false, Sy.bool)]
                            (g_equalStr [T.v (Value.string y7), T.v (Value.string y8)])
                            fun (y9 : Bool) =>
                            iteP (!y9) (R (T.v (Value.bool false)))
                              (X5 (IntKind.i64.wrap (s6.fst + 1), ())))
                      (R (T.v (Value.bool true))))
                  (0, ()))))
          (0, ())))
      (R (T.v (Value.bool false))))
    (R (T.v (Value.bool false))))
  (R (T.v (Value.bool false)))
theorem F_packSame_eq (a0 : TPackage) (a1 : TPackage) (R : T → Prop) : sxTop stdC2 Tryz.prog E_packSame H_packSame 8 43 [encV true yPackage a0, encV true yPackage a1] R = F_packSame a0 a1 R := by kernel_rfl
abbrev s_packSame : Sh := [(true, yPackage), (true, yPackage)]
abbrev r_packSame : Sh := [(false, Sy.bool)]
theorem r_packSame_call (y : Sh.den r_packSame) (K : Sh.den r_packSame → Prop) : callK r_packSame (some (Sh.enc r_packSame y)) K = K y := callK_enc rfl y K

noncomputable def g_packSame : List T → Option (T) := gS s_packSame sp_packSame
theorem g_packSame_at {a0 : TPackage} {a1 : TPackage} : g_packSame [encV true yPackage a0, encV true yPackage a1] = sp_packSame (a0, a1) := gS_enc (s := s_packSame) rfl (a0, a1) rfl
theorem g_packSame_op {u0 u1 u2 u3 u4 u5 u6 u7 u8 u9} : g_packSame [T.agg
    [T.v (Value.string u0), T.v (Value.string u1),
      T.sl false (List.map Sy.str.enc u2),
      T.v (Value.int IntKind.i64 u3),
      T.sl false (List.map Sy.str.enc u4)],
  T.agg
    [T.v (Value.string u5), T.v (Value.string u6),
      T.sl false (List.map Sy.str.enc u7),
      T.v (Value.int IntKind.i64 u8),
      T.sl false (List.map Sy.str.enc u9)]] = sp_packSame ((u0, (u1, (u2, (u3, u4)))), (u5, (u6, (u7, (u8, u9))))) := gS_enc (s := s_packSame) rfl ((u0, (u1, (u2, (u3, u4)))), (u5, (u6, (u7, (u8, u9))))) rfl
theorem of_packSame (h : ∀ (a0 : TPackage) (a1 : TPackage) (r : T), sp_packSame (a0, a1) = some r → BdSh s_packSame (a0, a1) → F_packSame a0 a1 (fun y => y = r)) : PureFn Tryz.prog 43 g_packSame :=
  pureFn_S (E := E_packSame) (Hs := H_packSame) Eok_packSame mixed' plain' (noHeap_of rfl) 8 ⟨_, _, Tryz.func43, rfl⟩ rfl fun x r h1 h2 => by
    obtain ⟨a0, a1⟩ := x
    rw [show Sh.encs s_packSame (a0, a1) = [encV true yPackage a0, encV true yPackage a1] from rfl, F_packSame_eq]
    exact h a0 a1 r h1 h2

theorem fn_packSame : PureFn Tryz.prog 43 g_packSame := of_packSame fun a b r h hb => by
  cases h
  have no : ¬ a = b → T.v (Value.bool false) = Sh.enc r_b (eqB a b) := fun h => by rw [eqB_no h]; rfl
  have yes : a = b → T.v (Value.bool true) = Sh.enc r_b (eqB a b) := fun h => by rw [eqB_iff.2 h]; rfl
  have hl1 : a.2.2.1.length ≤ 2 ^ 47 := hb.1.2.2.1.1
  have hl2 : a.2.2.2.2.length ≤ 2 ^ 47 := hb.1.2.2.2.2.1
  unfold F_packSame
  have u := @g_equalStr_at
  simp only [u, sp_equalStr, r_b_call]
  refine iteP_b (fun h1 => ?_) (fun h => no fun e => by simp [e] at h)
  refine iteP_b (fun h2 => ?_) (fun h => no fun e => by simp [e] at h)
  refine iteP_b (fun h3 => ?_) (fun h => no fun e => by simp [e] at h)
  refine cmp_all (r := .str) hl1 _ (fun x y => eqB_iff) (fun h4 => ?_) (fun h => no fun e => h (by rw [e]))
  refine cmp_all (r := .str) hl2 _ (fun x y => eqB_iff) (fun h5 => yes ?_) (fun h => no fun e => h (by rw [e]))
  simp only [decide_eq_true_eq] at h1 h2 h3
  simp only [Prod.ext_iff]
  exact ⟨h1, h2, h4, h3, h5⟩
set_option maxRecDepth 100000
noncomputable def E_desSame17 : Env := Env.of [(46, .pure g_samePart), (30, .pure g_samePack)]
def H_desSame17 : FuncId → Hint := fun f => match f == 19 with | true => ⟨fun r => match r == 4 with | true => .inv [.val 5 false (.int .i64)] | false => match r == 9 with | true => .inv [.val 6 false (.int .i64)] | false => match r == 14 with | true => .inv [.val 7 false (.int .i64)] | false => match r == 19 with | true => .inv [.val 8 false (.int .i64)] | false => match r == 24 with | true => .inv [.val 9 false (.int .i64)] | false => .none, fun _ _ => none, fun _ => none⟩ | false => noHint
theorem Eok_desSame17 : EnvOk Tryz.prog E_desSame17 := EnvOk.cons (x := .pure g_samePart) fn_samePart (EnvOk.cons (x := .pure g_samePack) fn_samePack (EnvOk.nil _))
def F_desSame17 (a0 : TDesign) (a1 : TDesign) (R : T → Prop) : Prop :=
  iteP (!decide (a0.fst = a1.fst)) (R (T.v (Value.bool false)))
  (iteP
    (!decide
        ((↑(List.map yNode.enc a0.snd.fst).length : Int) = (↑(List.map yNode.enc a1.snd.fst).length : Int)))
    (R (T.v (Value.bool false)))
    (iteP
      (!decide
          ((↑(List.map yPart.enc a0.snd.snd.fst).length : Int) =
            (↑(List.map yPart.enc a1.snd.snd.fst).length : Int)))
      (R (T.v (Value.bool false)))
      (iteP
        (!decide
            ((↑(List.map ySeam.enc a0.snd.snd.snd.fst).length : Int) =
              (↑(List.map ySeam.enc a1.snd.snd.snd.fst).length : Int)))
        (R (T.v (Value.bool false)))
        (iteP
          (!decide
              ((↑(List.map yPackage.enc a0.snd.snd.snd.snd.fst).length : Int) =
                (↑(List.map yPackage.enc a1.snd.snd.snd.snd.fst).length : Int)))
          (R (T.v (Value.bool false)))
          (iteP
            (!decide
                ((↑(List.map yNeed.enc a0.snd.snd.snd.snd.snd).length : Int) =
                  (↑(List.map yNeed.enc a1.snd.snd.snd.snd.snd).length : Int)))
            (R (T.v (Value.bool false)))
            (loopK (Int × PUnit)
              (fun (X0 : Int × PUnit → Prop) (s1 : Int × PUnit) =>
                iteP (decide (s1.fst < (↑(List.map yNode.enc a0.snd.fst).length : Int)))
                  (rowsK yNode (List.map yNode.enc a0.snd.fst) s1.fst fun (y2 : TNode) =>
                    rowsK yNode (List.map yNode.enc a1.snd.fst) s1.fst fun (y3 : TNode) =>
                      iteP
                        (!(decide (y2.fst = y3.fst) &&
                            (decide (y2.snd.fst = y3.snd.fst) && (decide (y2.snd.snd = y3.snd.snd) && true))))
                        (R (T.v (Value.bool false))) (X0 (IntKind.i64.wrap (s1.fst + 1), ())))
                  (loopK (Int × PUnit)
                    (fun (X4 : Int × PUnit → Prop) (s5 : Int × PUnit) =>
                      iteP (decide (s5.fst < (↑(List.map yPart.enc a0.snd.snd.fst).length : Int)))
                        (rowsK yPart (List.map yPart.enc a0.snd.snd.fst) s5.fst
                          fun (y6 : TPart) =>
                          rowsK yPart (List.map yPart.enc a1.snd.snd.fst) s5.fst
                            fun (y7 : TPart) =>
                            callK [(false, Sy.bool)]
                              (g_samePart [encV true yPart y6, encV true yPart y7])
                              fun (y8 : Bool) =>
                              iteP (!y8) (R (T.v (Value.bool false)))
                                (X4 (IntKind.i64.wrap (s5.fst + 1), ())))
                        (loopK (Int × PUnit)
                          (fun (X9 : Int × PUnit → Prop) (s10 : Int × PUnit) =>
                            iteP
                              (decide (s10.fst < (↑(List.map ySeam.enc a0.snd.snd.snd.fst).length : Int)))
                              (rowsK ySeam (List.map ySeam.enc a0.snd.snd.snd.fst) s10.fst
                                fun (y11 : TSeam) =>
                                rowsK ySeam (List.map ySeam.enc a1.snd.snd.snd.fst) s10.fst
                                  fun (y12 : TSeam) =>
                                  iteP
                                    (!(decide (y11.fst = y12.fst) &&
                                        (decide (y11.snd.fst = y12.snd.fst) &&
                                          (decide (y11.snd.snd.fst = y12.snd.snd.fst) &&
                                            (decide (y11.snd.snd.snd.fst = y12.snd.snd.snd.fst) &&
                                              (decide (y11.snd.snd.snd.snd.fst = y12.snd.snd.snd.snd.fst) &&
                                                (decide (y11.snd.snd.snd.snd.snd = y12.snd.snd.snd.snd.snd) &&
                                                  true)))))))
                                    (R (T.v (Value.bool false))) (X9 (IntKind.i64.wrap (s10.fst + 1), ())))
                              (loopK (Int × PUnit)
                                (fun (X13 : Int × PUnit → Prop) (s14 : Int × PUnit) =>
                                  iteP
                                    (decide
                                      (s14.fst < (↑(List.map yPackage.enc a0.snd.snd.snd.snd.fst).length : Int)))
                                    (rowsK yPackage (List.map yPackage.enc a0.snd.snd.snd.snd.fst)
                                      s14.fst fun (y15 : TPackage) =>
                                      rowsK yPackage (List.map yPackage.enc a1.snd.snd.snd.snd.fst)
                                        s14.fst fun (y16 : TPackage) =>
                                        callK [(false, Sy.bool)]
                                          (g_samePack
                                            [encV true yPackage y15, encV true yPackage y16])
                                          fun (y17 : Bool) =>
                                          iteP (!y17) (R (T.v (Value.bool false)))
                                            (X13 (IntKind.i64.wrap (s14.fst + 1), ())))
                                    (loopK (Int × PUnit)
                                      (fun (X18 : Int × PUnit → Prop) (s19 : Int × PUnit) =>
                                        iteP
                                          (decide
                                            (s19.fst <
                                              (↑(List.map yNeed.enc a0.snd.snd.snd.snd.snd).length : Int)))
                                          (rowsK yNeed (List.map yNeed.enc a0.snd.snd.snd.snd.snd)
                                            s19.fst fun (y20 : TNeed) =>
                                            rowsK yNeed (List.map yNeed.enc a1.snd.snd.snd.snd.snd)
                                              s19.fst fun (y21 : TNeed) =>
                                              iteP
                                                (!(decide (y20.fst = y21.fst) &&
                                                    (decide (y20.snd.fst = y21.snd.fst) &&
                                                      (decide (y20.snd.snd = y21.snd.snd) && true))))
                                                (R (T.v (Value.bool false)))
                                                (X18 (IntKind.i64.wrap (s19.fst + 1), ())))
                                          (R (T.v (Value.bool true))))
                                      (0, ())))
                                (0, ())))
                          (0, ())))
                    (0, ())))
              (0, ())))))))
theorem F_desSame17_eq (a0 : TDesign) (a1 : TDesign) (R : T → Prop) : sxTop stdC2 Tryz.prog E_desSame17 H_desSame17 8 19 [encV true yDesign a0, encV true yDesign a1] R = F_desSame17 a0 a1 R := by kernel_rfl
abbrev s_desSame17 : Sh := [(true, yDesign), (true, yDesign)]
abbrev r_desSame17 : Sh := [(false, Sy.bool)]
theorem r_desSame17_call (y : Sh.den r_desSame17) (K : Sh.den r_desSame17 → Prop) : callK r_desSame17 (some (Sh.enc r_desSame17 y)) K = K y := callK_enc rfl y K

noncomputable def g_desSame17 : List T → Option (T) := gS s_desSame17 sp_desSame17
theorem g_desSame17_at {a0 : TDesign} {a1 : TDesign} : g_desSame17 [encV true yDesign a0, encV true yDesign a1] = sp_desSame17 (a0, a1) := gS_enc (s := s_desSame17) rfl (a0, a1) rfl
theorem g_desSame17_op {u0 u1 u2 u3 u4 u5 u6 u7 u8 u9 u10 u11} : g_desSame17 [T.agg
    [T.v (Value.string u0), T.sl false (List.map yNode.enc u1),
      T.sl false (List.map yPart.enc u2),
      T.sl false (List.map ySeam.enc u3),
      T.sl false (List.map yPackage.enc u4),
      T.sl false (List.map yNeed.enc u5)],
  T.agg
    [T.v (Value.string u6), T.sl false (List.map yNode.enc u7),
      T.sl false (List.map yPart.enc u8),
      T.sl false (List.map ySeam.enc u9),
      T.sl false (List.map yPackage.enc u10),
      T.sl false (List.map yNeed.enc u11)]] = sp_desSame17 ((u0, (u1, (u2, (u3, (u4, u5))))), (u6, (u7, (u8, (u9, (u10, u11)))))) := gS_enc (s := s_desSame17) rfl ((u0, (u1, (u2, (u3, (u4, u5))))), (u6, (u7, (u8, (u9, (u10, u11)))))) rfl
theorem of_desSame17 (h : ∀ (a0 : TDesign) (a1 : TDesign) (r : T), sp_desSame17 (a0, a1) = some r → BdSh s_desSame17 (a0, a1) → F_desSame17 a0 a1 (fun y => y = r)) : PureFn Tryz.prog 19 g_desSame17 :=
  pureFn_S (E := E_desSame17) (Hs := H_desSame17) Eok_desSame17 mixed' plain' (noHeap_of rfl) 8 ⟨_, _, Tryz.func19, rfl⟩ rfl fun x r h1 h2 => by
    obtain ⟨a0, a1⟩ := x
    rw [show Sh.encs s_desSame17 (a0, a1) = [encV true yDesign a0, encV true yDesign a1] from rfl, F_desSame17_eq]
    exact h a0 a1 r h1 h2

theorem fn_desSame17 : PureFn Tryz.prog 19 g_desSame17 := of_desSame17 fun a b r h hb => by
  cases h
  have no : ¬ a = b → T.v (Value.bool false) = Sh.enc r_b (eqB a b) := fun h => by rw [eqB_no h]; rfl
  have yes : a = b → T.v (Value.bool true) = Sh.enc r_b (eqB a b) := fun h => by rw [eqB_iff.2 h]; rfl
  obtain ⟨⟨_, ⟨b1, _⟩, ⟨b2, _⟩, ⟨b3, _⟩, ⟨b4, _⟩, ⟨b5, _⟩⟩, _⟩ := hb
  unfold F_desSame17
  simp only [g_samePart_at, sp_samePart, g_samePack_at, sp_samePack, r_b_call]
  refine iteP_nb (fun h => no fun e => by simp [e] at h) fun h1 => ?_
  refine iteP_nb (fun h => no fun e => by simp [e] at h) fun g1 => ?_
  refine iteP_nb (fun h => no fun e => by simp [e] at h) fun g2 => ?_
  refine iteP_nb (fun h => no fun e => by simp [e] at h) fun g3 => ?_
  refine iteP_nb (fun h => no fun e => by simp [e] at h) fun g4 => ?_
  refine iteP_nb (fun h => no fun e => by simp [e] at h) fun g5 => ?_
  refine cmp_loop (r := yNode) (len_of g1) b1 _ (fun x y => ?_) (fun h2 => ?_) (fun h => no fun e => h (by rw [e]))
  · simp only [Bool.and_true, Bool.and_eq_true, decide_eq_true_eq, Prod.ext_iff]
  refine cmp_loop (r := yPart) (len_of g2) b2 _ (fun x y => eqB_iff) (fun h3 => ?_) (fun h => no fun e => h (by rw [e]))
  refine cmp_loop (r := ySeam) (len_of g3) b3 _ (fun x y => ?_) (fun h4 => ?_) (fun h => no fun e => h (by rw [e]))
  · simp only [Bool.and_true, Bool.and_eq_true, decide_eq_true_eq, Prod.ext_iff]
  refine cmp_loop (r := yPackage) (len_of g4) b4 _ (fun x y => eqB_iff) (fun h5 => ?_) (fun h => no fun e => h (by rw [e]))
  refine cmp_loop (r := yNeed) (len_of g5) b5 _ (fun x y => ?_) (fun h6 => yes ?_) (fun h => no fun e => h (by rw [e]))
  · simp only [Bool.and_true, Bool.and_eq_true, decide_eq_true_eq, Prod.ext_iff]
  exact Prod.ext (by simpa using h1) (Prod.ext h2 (Prod.ext h3 (Prod.ext h4 (Prod.ext h5 h6))))
set_option maxRecDepth 100000
noncomputable def E_desSame : Env := Env.of [(37, .pure g_equalNode), (39, .pure g_partSame), (41, .pure g_equalSeam), (43, .pure g_packSame), (45, .pure g_equalNeed)]
def H_desSame : FuncId → Hint := fun f => match f == 36 with | true => ⟨fun r => match r == 4 with | true => .inv [.val 15 false (.int .i64)] | false => .none, fun _ _ => none, fun _ => none⟩ | false => match f == 38 with | true => ⟨fun r => match r == 4 with | true => .inv [.val 15 false (.int .i64)] | false => .none, fun _ _ => none, fun _ => none⟩ | false => match f == 40 with | true => ⟨fun r => match r == 4 with | true => .inv [.val 15 false (.int .i64)] | false => .none, fun _ _ => none, fun _ => none⟩ | false => match f == 42 with | true => ⟨fun r => match r == 4 with | true => .inv [.val 15 false (.int .i64)] | false => .none, fun _ _ => none, fun _ => none⟩ | false => match f == 44 with | true => ⟨fun r => match r == 4 with | true => .inv [.val 15 false (.int .i64)] | false => .none, fun _ _ => none, fun _ => none⟩ | false => noHint
theorem Eok_desSame : EnvOk Tryz.prog E_desSame := EnvOk.cons (x := .pure g_equalNode) fn_equalNode (EnvOk.cons (x := .pure g_partSame) fn_partSame (EnvOk.cons (x := .pure g_equalSeam) fn_equalSeam (EnvOk.cons (x := .pure g_packSame) fn_packSame (EnvOk.cons (x := .pure g_equalNeed) fn_equalNeed (EnvOk.nil _)))))
def F_desSame (a0 : TDesign) (a1 : TDesign) (R : T → Prop) : Prop :=
  iteP (decide (a0.fst = a1.fst))
  (iteP
    (!decide
        ((↑(List.map yNode.enc a0.snd.fst).length : Int) = (↑(List.map yNode.enc a1.snd.fst).length : Int)))
    (R (T.v (Value.bool false)))
    (loopK (Int × PUnit)
      (fun (X0 : Int × PUnit → Prop) (s1 : Int × PUnit) =>
        iteP (decide (s1.fst < (↑(List.map yNode.enc a0.snd.fst).length : Int)))
          (rowsK yNode (List.map yNode.enc a0.snd.fst) s1.fst fun (y2 : TNode) =>
            rowsK yNode (List.map yNode.enc a1.snd.fst) s1.fst fun (y3 : TNode) =>
              callK [(false, Sy.bool)]
                (g_equalNode [encV true yNode y2, encV true yNode y3]) fun (y4 : Bool) =>
                iteP (!y4) (R (T.v (Value.bool false))) (X0 (IntKind.i64.wrap (s1.fst + 1), ())))
          (iteP
            (!decide
                ((↑(List.map yPart.enc a0.snd.snd.fst).length : Int) =
                  (↑(List.map yPart.enc a1.snd.snd.fst).length : Int)))
            (R (T.v (Value.bool false)))
            (loopK (Int × PUnit)
              (fun (X5 : Int × PUnit → Prop) (s6 : Int × PUnit) =>
                iteP (decide (s6.fst < (↑(List.map yPart.enc a0.snd.snd.fst).length : Int)))
                  (rowsK yPart (List.map yPart.enc a0.snd.snd.fst) s6.fst fun (y7 : TPart) =>
                    rowsK yPart (List.map yPart.enc a1.snd.snd.fst) s6.fst fun (y8 : TPart) =>
                      callK [(false, Sy.bool)]
                        (g_partSame [encV true yPart y7, encV true yPart y8])
                        fun (y9 : Bool) =>
                        iteP (!y9) (R (T.v (Value.bool false)))
                          (X5 (IntKind.i64.wrap (s6.fst + 1), ())))
                  (iteP
                    (!decide
                        ((↑(List.map ySeam.enc a0.snd.snd.snd.fst).length : Int) =
                          (↑(List.map ySeam.enc a1.snd.snd.snd.fst).length : Int)))
                    (R (T.v (Value.bool false)))
                    (loopK (Int × PUnit)
                      (fun (X10 : Int × PUnit → Prop) (s11 : Int × PUnit) =>
                        iteP (decide (s11.fst < (↑(List.map ySeam.enc a0.snd.snd.snd.fst).length : Int)))
                          (rowsK ySeam (List.map ySeam.enc a0.snd.snd.snd.fst) s11.fst
                            fun (y12 : TSeam) =>
                            rowsK ySeam (List.map ySeam.enc a1.snd.snd.snd.fst) s11.fst
                              fun (y13 : TSeam) =>
                              callK [(false, Sy.bool)]
                                (g_equalSeam [encV true ySeam y12, encV true ySeam y13])
                                fun (y14 : Bool) =>
                                iteP (!y14) (R (T.v (Value.bool false)))
                                  (X10 (IntKind.i64.wrap (s11.fst + 1), ())))
                          (iteP
                            (!decide
                                ((↑(List.map yPackage.enc a0.snd.snd.snd.snd.fst).length : Int) =
                                  (↑(List.map yPackage.enc a1.snd.snd.snd.snd.fst).length : Int)))
                            (R (T.v (Value.bool false)))
                            (loopK (Int × PUnit)
                              (fun (X15 : Int × PUnit → Prop) (s16 : Int × PUnit) =>
                                iteP
                                  (decide
                                    (s16.fst < (↑(List.map yPackage.enc a0.snd.snd.snd.snd.fst).length : Int)))
                                  (rowsK yPackage (List.map yPackage.enc a0.snd.snd.snd.snd.fst)
                                    s16.fst fun (y17 : TPackage) =>
                                    rowsK yPackage (List.map yPackage.enc a1.snd.snd.snd.snd.fst)
                                      s16.fst fun (y18 : TPackage) =>
                                      callK [(false, Sy.bool)]
                                        (g_packSame
                                          [encV true yPackage y17, encV true yPackage y18])
                                        fun (y19 : Bool) =>
                                        iteP (!y19) (R (T.v (Value.bool false)))
                                          (X15 (IntKind.i64.wrap (s16.fst + 1), ())))
                                  (iteP
                                    (!decide
                                        ((↑(List.map yNeed.enc a0.snd.snd.snd.snd.snd).length : Int) =
                                          (↑(List.map yNeed.enc a1.snd.snd.snd.snd.snd).length : Int)))
                                    (R (T.v (Value.bool false)))
                                    (loopK (Int × PUnit)
                                      (fun (X20 : Int × PUnit → Prop) (s21 : Int × PUnit) =>
                                        iteP
                                          (decide
                                            (s21.fst <
                                              (↑(List.map yNeed.enc a0.snd.snd.snd.snd.snd).length : Int)))
                                          (rowsK yNeed (List.map yNeed.enc a0.snd.snd.snd.snd.snd)
                                            s21.fst fun (y22 : TNeed) =>
                                            rowsK yNeed (List.map yNeed.enc a1.snd.snd.snd.snd.snd)
                                              s21.fst fun (y23 : TNeed) =>
                                              callK [(false, Sy.bool)]
                                                (g_equalNeed
                                                  [encV true yNeed y22, encV true yNeed y23])
                                                fun (y24 : Bool) =>
                                                iteP (!y24) (R (T.v (Value.bool false)))
                                                  (X20 (IntKind.i64.wrap (s21.fst + 1), ())))
                                          (R (T.v (Value.bool true))))
                                      (0, ()))))
                              (0, ()))))
                      (0, ()))))
              (0, ()))))
      (0, ())))
  (R (T.v (Value.bool false)))
theorem F_desSame_eq (a0 : TDesign) (a1 : TDesign) (R : T → Prop) : sxTop stdC2 Tryz.prog E_desSame H_desSame 8 18 [encV true yDesign a0, encV true yDesign a1] R = F_desSame a0 a1 R := by kernel_rfl
abbrev s_desSame : Sh := [(true, yDesign), (true, yDesign)]
abbrev r_desSame : Sh := [(false, Sy.bool)]
theorem r_desSame_call (y : Sh.den r_desSame) (K : Sh.den r_desSame → Prop) : callK r_desSame (some (Sh.enc r_desSame y)) K = K y := callK_enc rfl y K

noncomputable def g_desSame : List T → Option (T) := gS s_desSame sp_desSame
theorem g_desSame_at {a0 : TDesign} {a1 : TDesign} : g_desSame [encV true yDesign a0, encV true yDesign a1] = sp_desSame (a0, a1) := gS_enc (s := s_desSame) rfl (a0, a1) rfl
theorem g_desSame_op {u0 u1 u2 u3 u4 u5 u6 u7 u8 u9 u10 u11} : g_desSame [T.agg
    [T.v (Value.string u0), T.sl false (List.map yNode.enc u1),
      T.sl false (List.map yPart.enc u2),
      T.sl false (List.map ySeam.enc u3),
      T.sl false (List.map yPackage.enc u4),
      T.sl false (List.map yNeed.enc u5)],
  T.agg
    [T.v (Value.string u6), T.sl false (List.map yNode.enc u7),
      T.sl false (List.map yPart.enc u8),
      T.sl false (List.map ySeam.enc u9),
      T.sl false (List.map yPackage.enc u10),
      T.sl false (List.map yNeed.enc u11)]] = sp_desSame ((u0, (u1, (u2, (u3, (u4, u5))))), (u6, (u7, (u8, (u9, (u10, u11)))))) := gS_enc (s := s_desSame) rfl ((u0, (u1, (u2, (u3, (u4, u5))))), (u6, (u7, (u8, (u9, (u10, u11)))))) rfl
theorem of_desSame (h : ∀ (a0 : TDesign) (a1 : TDesign) (r : T), sp_desSame (a0, a1) = some r → BdSh s_desSame (a0, a1) → F_desSame a0 a1 (fun y => y = r)) : PureFn Tryz.prog 18 g_desSame :=
  pureFn_S (E := E_desSame) (Hs := H_desSame) Eok_desSame mixed' plain' (noHeap_of rfl) 8 ⟨_, _, Tryz.func18, rfl⟩ rfl fun x r h1 h2 => by
    obtain ⟨a0, a1⟩ := x
    rw [show Sh.encs s_desSame (a0, a1) = [encV true yDesign a0, encV true yDesign a1] from rfl, F_desSame_eq]
    exact h a0 a1 r h1 h2

theorem fn_desSame : PureFn Tryz.prog 18 g_desSame := of_desSame fun a b r h hb => by
  cases h
  have no : ¬ a = b → T.v (Value.bool false) = Sh.enc r_b (eqB a b) := fun h => by rw [eqB_no h]; rfl
  have yes : a = b → T.v (Value.bool true) = Sh.enc r_b (eqB a b) := fun h => by rw [eqB_iff.2 h]; rfl
  obtain ⟨⟨_, ⟨b1, _⟩, ⟨b2, _⟩, ⟨b3, _⟩, ⟨b4, _⟩, ⟨b5, _⟩⟩, _⟩ := hb
  unfold F_desSame
  simp only [g_equalNode_at, sp_equalNode, g_partSame_at, sp_partSame, g_equalSeam_at, sp_equalSeam, g_packSame_at, sp_packSame, g_equalNeed_at, sp_equalNeed, r_b_call]
  refine iteP_b (fun h1 => ?_) (fun h => no fun e => by simp [e] at h)
  refine cmp_all (r := yNode) b1 _ (fun x y => eqB_iff) (fun h2 => ?_) (fun h => no fun e => h (by rw [e]))
  refine cmp_all (r := yPart) b2 _ (fun x y => eqB_iff) (fun h3 => ?_) (fun h => no fun e => h (by rw [e]))
  refine cmp_all (r := ySeam) b3 _ (fun x y => eqB_iff) (fun h4 => ?_) (fun h => no fun e => h (by rw [e]))
  refine cmp_all (r := yPackage) b4 _ (fun x y => eqB_iff) (fun h5 => ?_) (fun h => no fun e => h (by rw [e]))
  refine cmp_all (r := yNeed) b5 _ (fun x y => eqB_iff) (fun h6 => yes ?_) (fun h => no fun e => h (by rw [e]))
  exact Prod.ext (by simpa using h1) (Prod.ext h2 (Prod.ext h3 (Prod.ext h4 (Prod.ext h5 h6))))
def sp_lawSames (x : TDesign × TDesign) : Option T := some (.v (.bool true))
set_option maxRecDepth 100000
noncomputable def E_lawSames : Env := Env.of [(7, .pure g_few), (18, .pure g_desSame), (19, .pure g_desSame17), (8, .pure g_awake17)]
def H_lawSames : FuncId → Hint := fun _ => noHint
theorem Eok_lawSames : EnvOk Tryz.prog E_lawSames := EnvOk.cons (x := .pure g_few) fn_few (EnvOk.cons (x := .pure g_desSame) fn_desSame (EnvOk.cons (x := .pure g_desSame17) fn_desSame17 (EnvOk.cons (x := .pure g_awake17) fn_awake17 (EnvOk.nil _))))
def F_lawSames (a0 : TDesign) (a1 : TDesign) (R : T → Prop) : Prop :=
  callK [(false, Sy.bool)]
  (g_few [encV true yDesign a0, T.v (Value.int IntKind.i64 80)]) fun (y0 : Bool) =>
  iteP (!y0)
    (callK [(false, Sy.bool)] (g_awake17 []) fun (y1 : Bool) => R (T.v (Value.bool y1)))
    (callK [(false, Sy.bool)]
      (g_few [encV true yDesign a1, T.v (Value.int IntKind.i64 80)]) fun (y2 : Bool) =>
      iteP (!y2)
        (callK [(false, Sy.bool)] (g_awake17 []) fun (y3 : Bool) => R (T.v (Value.bool y3)))
        (callK [(false, Sy.bool)]
          (g_desSame [encV true yDesign a0, encV true yDesign a1]) fun (y4 : Bool) =>
          callK [(false, Sy.bool)]
            (g_desSame17 [encV true yDesign a0, encV true yDesign a1]) fun (y5 : Bool) =>
            iteP (decide (y4 = y5))
              (callK [(false, Sy.bool)]
                (g_desSame [encV true yDesign a1, encV true yDesign a0])
                fun (y6 : Bool) =>
                callK [(false, Sy.bool)]
                  (g_desSame17 [encV true yDesign a0, encV true yDesign a1])
                  fun (y7 : Bool) =>
                  iteP (decide (y6 = y7))
                    (callK [(false, Sy.bool)]
                      (g_desSame [encV true yDesign a0, encV true yDesign a0])
                      fun (y8 : Bool) =>
                      iteP y8
                        (callK [(false, Sy.bool)] (g_awake17 []) fun (y9 : Bool) =>
                          R (T.v (Value.bool y9)))
                        (R (T.v (Value.bool false))))
                    (R (T.v (Value.bool false))))
              (R (T.v (Value.bool false)))))
theorem F_lawSames_eq (a0 : TDesign) (a1 : TDesign) (R : T → Prop) : sxTop stdC2 Tryz.prog E_lawSames H_lawSames 8 4 [encV true yDesign a0, encV true yDesign a1] R = F_lawSames a0 a1 R := by kernel_rfl
abbrev s_lawSames : Sh := [(true, yDesign), (true, yDesign)]
abbrev r_lawSames : Sh := [(false, Sy.bool)]
theorem r_lawSames_call (y : Sh.den r_lawSames) (K : Sh.den r_lawSames → Prop) : callK r_lawSames (some (Sh.enc r_lawSames y)) K = K y := callK_enc rfl y K

noncomputable def g_lawSames : List T → Option (T) := gS s_lawSames sp_lawSames
theorem g_lawSames_at {a0 : TDesign} {a1 : TDesign} : g_lawSames [encV true yDesign a0, encV true yDesign a1] = sp_lawSames (a0, a1) := gS_enc (s := s_lawSames) rfl (a0, a1) rfl
theorem g_lawSames_op {u0 u1 u2 u3 u4 u5 u6 u7 u8 u9 u10 u11} : g_lawSames [T.agg
    [T.v (Value.string u0), T.sl false (List.map yNode.enc u1),
      T.sl false (List.map yPart.enc u2),
      T.sl false (List.map ySeam.enc u3),
      T.sl false (List.map yPackage.enc u4),
      T.sl false (List.map yNeed.enc u5)],
  T.agg
    [T.v (Value.string u6), T.sl false (List.map yNode.enc u7),
      T.sl false (List.map yPart.enc u8),
      T.sl false (List.map ySeam.enc u9),
      T.sl false (List.map yPackage.enc u10),
      T.sl false (List.map yNeed.enc u11)]] = sp_lawSames ((u0, (u1, (u2, (u3, (u4, u5))))), (u6, (u7, (u8, (u9, (u10, u11)))))) := gS_enc (s := s_lawSames) rfl ((u0, (u1, (u2, (u3, (u4, u5))))), (u6, (u7, (u8, (u9, (u10, u11)))))) rfl
theorem of_lawSames (h : ∀ (a0 : TDesign) (a1 : TDesign) (r : T), sp_lawSames (a0, a1) = some r → BdSh s_lawSames (a0, a1) → F_lawSames a0 a1 (fun y => y = r)) : PureFn Tryz.prog 4 g_lawSames :=
  pureFn_S (E := E_lawSames) (Hs := H_lawSames) Eok_lawSames mixed' plain' (noHeap_of rfl) 8 ⟨_, _, Tryz.func4, rfl⟩ rfl fun x r h1 h2 => by
    obtain ⟨a0, a1⟩ := x
    rw [show Sh.encs s_lawSames (a0, a1) = [encV true yDesign a0, encV true yDesign a1] from rfl, F_lawSames_eq]
    exact h a0 a1 r h1 h2

theorem fn_lawSames : PureFn Tryz.prog 4 g_lawSames := of_lawSames fun a b r h hb => by
  cases h
  have hs : eqB b a = eqB a b := by rw [Bool.eq_iff_iff, eqB_iff, eqB_iff]; exact ⟨fun h => h.symm, fun h => h.symm⟩
  unfold F_lawSames
  simp only [g_few_at, sp_few, r_b_call, g_awake17_call, g_desSame_at, sp_desSame, g_desSame17_at, sp_desSame17, hs, eqB_self, decide_true, iteP_t]
  cases few a 80 <;> cases few b 80 <;> trivial
end Go.Pv
