/-
  Chapter 17: the tree's seams and requirements.
  dag.Order, walked.
  Chapter 17: the tree's parts and packages, walked; Check, walked.
  Chapter 17: Check where the parts and packages are empty ones; StructureLong, walked.
-/
import Derived.Test.YtgcdkgglcloniaaGreatDoorPn4
set_option linter.unusedSimpArgs false
set_option linter.unusedVariables false
set_option maxRecDepth 100000
namespace Go.Pv
open Go Go.Proofs
def seamE (d : TDesign) (s : TSeam) : Int := if isId s.1 = false ∨ isId s.2.1 = false ∨ isId s.2.2.1 = false then 6 else if s.2.1 = s.2.2.1 then 2 else if ¬ s.2.2.2.1 = 1 ∧ ¬ s.2.2.2.1 = 2 then 10 else if s.2.2.2.2.1 < 1 ∨ 32768 < s.2.2.2.2.1 ∨ s.2.2.2.2.2 < 1 ∨ 3 < s.2.2.2.2.2 then 9 else if (partOf d s.2.1).isNone = true ∨ (partOf d s.2.2.1).isNone = true then 8 else 0
set_option maxRecDepth 100000
def A_cSeams (a0 : TDesign) (m1 : List (ByteArray × Int)) (m2 : List (ByteArray × Int)) (m3 : List (ByteArray × Int)) (m4 : List (ByteArray × Int)) : List T := [tRef a0 m1 m2 m3 m4]
noncomputable def E_cSeams : Env := Env.of [(34, .pure g_isId)]
def H_cSeams : FuncId → Hint := fun f => match f == 45 with | true => ⟨fun r => match r == 2 with | true => .inv [.val 17 false (.int .i64)] | false => .none, fun _ _ => none, fun _ => none⟩ | false => noHint
theorem Eok_cSeams : EnvOk Tryz.prog E_cSeams := EnvOk.cons (x := .pure g_isId) fn_isId (EnvOk.nil _)
def F_cSeams (a0 : TDesign) (m1 : List (ByteArray × Int)) (m2 : List (ByteArray × Int)) (m3 : List (ByteArray × Int)) (m4 : List (ByteArray × Int)) (R : T → Prop) : Prop :=
 loopK (Int × PUnit)
 (fun (X0 : Int × PUnit → Prop) (s1 : Int × PUnit) =>
 iteP (decide (s1.fst < (↑(List.map ySeam.enc a0.snd.snd.snd.fst).length : Int)))
 (rowsK ySeam (List.map ySeam.enc a0.snd.snd.snd.fst) s1.fst fun (y2 : TSeam) =>
 findK TypeDesc.string (Value.string y2.snd.fst) (mpD (encM m2)) false
 (Sy.int IntKind.i64)
 (findK TypeDesc.string (Value.string y2.snd.snd.fst) (mpD (encM m2)) false
 (Sy.int IntKind.i64)
 (callK [(false, Sy.bool)] (g_isId [T.v (Value.string y2.fst)])
 fun (y18 : Bool) =>
 iteP (!y18) (R (T.v (Value.int IntKind.i64 6)))
 (callK [(false, Sy.bool)] (g_isId [T.v (Value.string y2.snd.fst)])
 fun (y19 : Bool) =>
 iteP (!y19) (R (T.v (Value.int IntKind.i64 6)))
 (callK [(false, Sy.bool)] (g_isId [T.v (Value.string y2.snd.snd.fst)])
 fun (y20 : Bool) =>
 iteP (!y20) (R (T.v (Value.int IntKind.i64 6)))
 (iteP (decide (y2.snd.fst = y2.snd.snd.fst))
 (R (T.v (Value.int IntKind.i64 2)))
 (iteP (!decide (y2.snd.snd.snd.fst = 1))
 (iteP (!decide (y2.snd.snd.snd.fst = 2))
 (R (T.v (Value.int IntKind.i64 10)))
 (iteP (decide (y2.snd.snd.snd.snd.fst < 1))
 (R (T.v (Value.int IntKind.i64 9)))
 (iteP (decide (32768 < y2.snd.snd.snd.snd.fst))
 (R (T.v (Value.int IntKind.i64 9)))
 (iteP (decide (y2.snd.snd.snd.snd.snd < 1))
 (R (T.v (Value.int IntKind.i64 9)))
 (iteP (decide (3 < y2.snd.snd.snd.snd.snd))
 (R (T.v (Value.int IntKind.i64 9)))
 (R (T.v (Value.int IntKind.i64 8))))))))
 (iteP (decide (y2.snd.snd.snd.snd.fst < 1))
 (R (T.v (Value.int IntKind.i64 9)))
 (iteP (decide (32768 < y2.snd.snd.snd.snd.fst))
 (R (T.v (Value.int IntKind.i64 9)))
 (iteP (decide (y2.snd.snd.snd.snd.snd < 1))
 (R (T.v (Value.int IntKind.i64 9)))
 (iteP (decide (3 < y2.snd.snd.snd.snd.snd))
 (R (T.v (Value.int IntKind.i64 9)))
 (R (T.v (Value.int IntKind.i64 8))))))))))))
 fun (i13 : Nat) (y14 : Int) =>
 callK [(false, Sy.bool)] (g_isId [T.v (Value.string y2.fst)]) fun (y15 : Bool) =>
 iteP (!y15) (R (T.v (Value.int IntKind.i64 6)))
 (callK [(false, Sy.bool)] (g_isId [T.v (Value.string y2.snd.fst)])
 fun (y16 : Bool) =>
 iteP (!y16) (R (T.v (Value.int IntKind.i64 6)))
 (callK [(false, Sy.bool)] (g_isId [T.v (Value.string y2.snd.snd.fst)])
 fun (y17 : Bool) =>
 iteP (!y17) (R (T.v (Value.int IntKind.i64 6)))
 (iteP (decide (y2.snd.fst = y2.snd.snd.fst))
 (R (T.v (Value.int IntKind.i64 2)))
 (iteP (!decide (y2.snd.snd.snd.fst = 1))
 (iteP (!decide (y2.snd.snd.snd.fst = 2))
 (R (T.v (Value.int IntKind.i64 10)))
 (iteP (decide (y2.snd.snd.snd.snd.fst < 1))
 (R (T.v (Value.int IntKind.i64 9)))
 (iteP (decide (32768 < y2.snd.snd.snd.snd.fst))
 (R (T.v (Value.int IntKind.i64 9)))
 (iteP (decide (y2.snd.snd.snd.snd.snd < 1))
 (R (T.v (Value.int IntKind.i64 9)))
 (iteP (decide (3 < y2.snd.snd.snd.snd.snd))
 (R (T.v (Value.int IntKind.i64 9)))
 (R (T.v (Value.int IntKind.i64 8))))))))
 (iteP (decide (y2.snd.snd.snd.snd.fst < 1))
 (R (T.v (Value.int IntKind.i64 9)))
 (iteP (decide (32768 < y2.snd.snd.snd.snd.fst))
 (R (T.v (Value.int IntKind.i64 9)))
 (iteP (decide (y2.snd.snd.snd.snd.snd < 1))
 (R (T.v (Value.int IntKind.i64 9)))
 (iteP (decide (3 < y2.snd.snd.snd.snd.snd))
 (R (T.v (Value.int IntKind.i64 9)))
 (R (T.v (Value.int IntKind.i64 8))))))))))))
 fun (i3 : Nat) (y4 : Int) =>
 findK TypeDesc.string (Value.string y2.snd.snd.fst) (mpD (encM m2)) false
 (Sy.int IntKind.i64)
 (callK [(false, Sy.bool)] (g_isId [T.v (Value.string y2.fst)])
 fun (y10 : Bool) =>
 iteP (!y10) (R (T.v (Value.int IntKind.i64 6)))
 (callK [(false, Sy.bool)] (g_isId [T.v (Value.string y2.snd.fst)])
 fun (y11 : Bool) =>
 iteP (!y11) (R (T.v (Value.int IntKind.i64 6)))
 (callK [(false, Sy.bool)] (g_isId [T.v (Value.string y2.snd.snd.fst)])
 fun (y12 : Bool) =>
 iteP (!y12) (R (T.v (Value.int IntKind.i64 6)))
 (iteP (decide (y2.snd.fst = y2.snd.snd.fst))
 (R (T.v (Value.int IntKind.i64 2)))
 (iteP (!decide (y2.snd.snd.snd.fst = 1))
 (iteP (!decide (y2.snd.snd.snd.fst = 2))
 (R (T.v (Value.int IntKind.i64 10)))
 (iteP (decide (y2.snd.snd.snd.snd.fst < 1))
 (R (T.v (Value.int IntKind.i64 9)))
 (iteP (decide (32768 < y2.snd.snd.snd.snd.fst))
 (R (T.v (Value.int IntKind.i64 9)))
 (iteP (decide (y2.snd.snd.snd.snd.snd < 1))
 (R (T.v (Value.int IntKind.i64 9)))
 (iteP (decide (3 < y2.snd.snd.snd.snd.snd))
 (R (T.v (Value.int IntKind.i64 9)))
 (R (T.v (Value.int IntKind.i64 8))))))))
 (iteP (decide (y2.snd.snd.snd.snd.fst < 1))
 (R (T.v (Value.int IntKind.i64 9)))
 (iteP (decide (32768 < y2.snd.snd.snd.snd.fst))
 (R (T.v (Value.int IntKind.i64 9)))
 (iteP (decide (y2.snd.snd.snd.snd.snd < 1))
 (R (T.v (Value.int IntKind.i64 9)))
 (iteP (decide (3 < y2.snd.snd.snd.snd.snd))
 (R (T.v (Value.int IntKind.i64 9)))
 (R (T.v (Value.int IntKind.i64 8))))))))))))
 fun (i5 : Nat) (y6 : Int) =>
 callK [(false, Sy.bool)] (g_isId [T.v (Value.string y2.fst)]) fun (y7 : Bool) =>
 iteP (!y7) (R (T.v (Value.int IntKind.i64 6)))
 (callK [(false, Sy.bool)] (g_isId [T.v (Value.string y2.snd.fst)])
 fun (y8 : Bool) =>
 iteP (!y8) (R (T.v (Value.int IntKind.i64 6)))
 (callK [(false, Sy.bool)] (g_isId [T.v (Value.string y2.snd.snd.fst)])
 fun (y9 : Bool) =>
 iteP (!y9) (R (T.v (Value.int IntKind.i64 6)))
 (iteP (decide (y2.snd.fst = y2.snd.snd.fst))
 (R (T.v (Value.int IntKind.i64 2)))
 (iteP (!decide (y2.snd.snd.snd.fst = 1))
 (iteP (!decide (y2.snd.snd.snd.fst = 2))
 (R (T.v (Value.int IntKind.i64 10)))
 (iteP (decide (y2.snd.snd.snd.snd.fst < 1))
 (R (T.v (Value.int IntKind.i64 9)))
 (iteP (decide (32768 < y2.snd.snd.snd.snd.fst))
 (R (T.v (Value.int IntKind.i64 9)))
 (iteP (decide (y2.snd.snd.snd.snd.snd < 1))
 (R (T.v (Value.int IntKind.i64 9)))
 (iteP (decide (3 < y2.snd.snd.snd.snd.snd))
 (R (T.v (Value.int IntKind.i64 9)))
 (X0 (IntKind.i64.wrap (s1.fst + 1), ())))))))
 (iteP (decide (y2.snd.snd.snd.snd.fst < 1))
 (R (T.v (Value.int IntKind.i64 9)))
 (iteP (decide (32768 < y2.snd.snd.snd.snd.fst))
 (R (T.v (Value.int IntKind.i64 9)))
 (iteP (decide (y2.snd.snd.snd.snd.snd < 1))
 (R (T.v (Value.int IntKind.i64 9)))
 (iteP (decide (3 < y2.snd.snd.snd.snd.snd))
 (R (T.v (Value.int IntKind.i64 9)))
 (X0 (IntKind.i64.wrap (s1.fst + 1), ())))))))))))
 (R (T.v (Value.int IntKind.i64 0))))
 (0, ())
theorem F_cSeams_eq (a0 : TDesign) (m1 : List (ByteArray × Int)) (m2 : List (ByteArray × Int)) (m3 : List (ByteArray × Int)) (m4 : List (ByteArray × Int)) (R : T → Prop) : sxTop stdC2 Tryz.prog E_cSeams H_cSeams 8 45 (A_cSeams a0 m1 m2 m3 m4) R = F_cSeams a0 m1 m2 m3 m4 R := by kernel_rfl
abbrev r_cSeams : Sh := [(false, Sy.int IntKind.i64)]
theorem r_cSeams_call (y : Sh.den r_cSeams) (K : Sh.den r_cSeams → Prop) : callK r_cSeams (some (Sh.enc r_cSeams y)) K = K y := callK_enc rfl y K

theorem A_cSeams_inj (x y : TDesign × MP × MP × MP × MP) (h : A_cSeams x.1 x.2.1 x.2.2.1 x.2.2.2.1 x.2.2.2.2 = A_cSeams y.1 y.2.1 y.2.2.1 y.2.2.2.1 y.2.2.2.2) : x = y := tRef_inj (List.cons.inj h).1
def sp_cSeams (x : TDesign × MP × MP × MP × MP) : Option T := onlyT x (T.v (Value.int .i64 (firstE (seamE x.1) x.1.2.2.2.1)))
noncomputable def g_cSeams : List T → Option (T) := gA (fun (x : TDesign × (List (ByteArray × Int)) × (List (ByteArray × Int)) × (List (ByteArray × Int)) × List (ByteArray × Int)) => A_cSeams x.1 x.2.1 x.2.2.1 x.2.2.2.1 x.2.2.2.2) sp_cSeams
theorem g_cSeams_at (a0 : TDesign) (m1 : List (ByteArray × Int)) (m2 : List (ByteArray × Int)) (m3 : List (ByteArray × Int)) (m4 : List (ByteArray × Int)) : g_cSeams (A_cSeams a0 m1 m2 m3 m4) = sp_cSeams (a0, m1, m2, m3, m4) := gA_at (A := (fun (x : TDesign × (List (ByteArray × Int)) × (List (ByteArray × Int)) × (List (ByteArray × Int)) × List (ByteArray × Int)) => A_cSeams x.1 x.2.1 x.2.2.1 x.2.2.2.1 x.2.2.2.2)) A_cSeams_inj (a0, m1, m2, m3, m4)
theorem of_cSeams (h : ∀ (a0 : TDesign) (m1 : List (ByteArray × Int)) (m2 : List (ByteArray × Int)) (m3 : List (ByteArray × Int)) (m4 : List (ByteArray × Int)) (r : T), sp_cSeams (a0, m1, m2, m3, m4) = some r → (∀ t ∈ A_cSeams a0 m1 m2 m3 m4, Bd t) → F_cSeams a0 m1 m2 m3 m4 (fun y => y = r)) : PureFn Tryz.prog 45 g_cSeams :=
  pureFn_A (E := E_cSeams) (Hs := H_cSeams) Eok_cSeams mixed' plain' (noHeap_of rfl) 8 ⟨_, _, Tryz.func45, rfl⟩ fun x r h1 h2 => by
    rw [F_cSeams_eq]
    exact h x.1 x.2.1 x.2.2.1 x.2.2.2.1 x.2.2.2.2 r h1 h2

theorem fn_cSeams : PureFn Tryz.prog 45 g_cSeams := of_cSeams fun d m1 m2 m3 m4 r h hb => by
  obtain ⟨hx, hs, rfl⟩ := onlyT_of h
  simp only [Prod.mk.injEq, true_and] at hx
  obtain ⟨rfl, rfl, rfl, rfl⟩ := hx
  replace hs : SmallD d := hs
  clear h
  unfold F_cSeams
  refine first_loop (r := ySeam) (seamE d) hs.s (fun X s y hy hok hbad => ?_) fun h0 => ?_
  · have bad : ∀ {n : Int}, n ≠ 0 → seamE d y = n → T.v (Value.int IntKind.i64 n) = T.v (Value.int IntKind.i64 (firstE (seamE d) d.2.2.2.1)) := fun hn h => by
      rw [hbad (by rw [h]; exact hn), h]
    clear hbad hb
    repeat' first
      | refine ixK (fun hn => ?_) (fun i j hj hn => ?_)
      | rw [isId_call]
      | refine ifQ (fun h => ?_) (fun h => ?_)
      | refine ifP (fun h => ?_) (fun h => ?_)
      | refine ifNB (fun h => ?_) (fun h => ?_)
    all_goals first
      | (exfalso; omega)
      | (refine bad (by decide) ?_; clear bad hok; unfold seamE; simp [*, partOf, packOf]; done)
      | (refine hok ?_; clear bad hok; unfold seamE; simp [*, partOf, packOf]; done)
  · show _ = T.v (Value.int IntKind.i64 (firstE (seamE d) d.2.2.2.1))
    rw [h0]
set_option maxRecDepth 100000
def A_isBlk (a0 : TDesign) (m1 : List (ByteArray × Int)) (m2 : List (ByteArray × Int)) (m3 : List (ByteArray × Int)) (m4 : List (ByteArray × Int)) (a5 : ByteArray) : List T := [tRef a0 m1 m2 m3 m4, T.v (Value.string a5)]
noncomputable def E_isBlk : Env := Env.of []
def H_isBlk : FuncId → Hint := fun _ => noHint
theorem Eok_isBlk : EnvOk Tryz.prog E_isBlk := EnvOk.nil _
def F_isBlk (a0 : TDesign) (m1 : List (ByteArray × Int)) (m2 : List (ByteArray × Int)) (m3 : List (ByteArray × Int)) (m4 : List (ByteArray × Int)) (a5 : ByteArray) (R : T → Prop) : Prop :=
 findK TypeDesc.string (Value.string a5) (mpD (encM m1)) false (Sy.int IntKind.i64)
 (R (T.v (Value.bool false))) fun (i0 : Nat) (y1 : Int) =>
 rowsK yNode (List.map yNode.enc a0.snd.fst) y1 fun (y2 : TNode) =>
 R (T.v (Value.bool (decide (y2.snd.fst = 1))))
theorem F_isBlk_eq (a0 : TDesign) (m1 : List (ByteArray × Int)) (m2 : List (ByteArray × Int)) (m3 : List (ByteArray × Int)) (m4 : List (ByteArray × Int)) (a5 : ByteArray) (R : T → Prop) : sxTop stdC2 Tryz.prog E_isBlk H_isBlk 8 70 (A_isBlk a0 m1 m2 m3 m4 a5) R = F_isBlk a0 m1 m2 m3 m4 a5 R := by kernel_rfl
abbrev r_isBlk : Sh := [(false, Sy.bool)]
theorem r_isBlk_call (y : Sh.den r_isBlk) (K : Sh.den r_isBlk → Prop) : callK r_isBlk (some (Sh.enc r_isBlk y)) K = K y := callK_enc rfl y K

def isBlk (d : TDesign) (id : ByteArray) : Bool := match nodeOf d id with
  | some n => decide (n.2.1 = 1)
  | none => false
theorem A_isBlk_inj (x y : TDesign × MP × MP × MP × MP × ByteArray) (h : A_isBlk x.1 x.2.1 x.2.2.1 x.2.2.2.1 x.2.2.2.2.1 x.2.2.2.2.2 = A_isBlk y.1 y.2.1 y.2.2.1 y.2.2.2.1 y.2.2.2.2.1 y.2.2.2.2.2) : x = y := A_tclimb_inj x y h
def sp_isBlk (x : TDesign × MP × MP × MP × MP × ByteArray) : Option T := onlyT (x.1, x.2.1, x.2.2.1, x.2.2.2.1, x.2.2.2.2.1) (T.v (Value.bool (isBlk x.1 x.2.2.2.2.2)))
noncomputable def g_isBlk : List T → Option (T) := gA (fun (x : TDesign × (List (ByteArray × Int)) × (List (ByteArray × Int)) × (List (ByteArray × Int)) × (List (ByteArray × Int)) × ByteArray) => A_isBlk x.1 x.2.1 x.2.2.1 x.2.2.2.1 x.2.2.2.2.1 x.2.2.2.2.2) sp_isBlk
theorem g_isBlk_at (a0 : TDesign) (m1 : List (ByteArray × Int)) (m2 : List (ByteArray × Int)) (m3 : List (ByteArray × Int)) (m4 : List (ByteArray × Int)) (a5 : ByteArray) : g_isBlk (A_isBlk a0 m1 m2 m3 m4 a5) = sp_isBlk (a0, m1, m2, m3, m4, a5) := gA_at (A := (fun (x : TDesign × (List (ByteArray × Int)) × (List (ByteArray × Int)) × (List (ByteArray × Int)) × (List (ByteArray × Int)) × ByteArray) => A_isBlk x.1 x.2.1 x.2.2.1 x.2.2.2.1 x.2.2.2.2.1 x.2.2.2.2.2)) A_isBlk_inj (a0, m1, m2, m3, m4, a5)
theorem of_isBlk (h : ∀ (a0 : TDesign) (m1 : List (ByteArray × Int)) (m2 : List (ByteArray × Int)) (m3 : List (ByteArray × Int)) (m4 : List (ByteArray × Int)) (a5 : ByteArray) (r : T), sp_isBlk (a0, m1, m2, m3, m4, a5) = some r → (∀ t ∈ A_isBlk a0 m1 m2 m3 m4 a5, Bd t) → F_isBlk a0 m1 m2 m3 m4 a5 (fun y => y = r)) : PureFn Tryz.prog 70 g_isBlk :=
  pureFn_A (E := E_isBlk) (Hs := H_isBlk) Eok_isBlk mixed' plain' (noHeap_of rfl) 8 ⟨_, _, Tryz.func70, rfl⟩ fun x r h1 h2 => by
    rw [F_isBlk_eq]
    exact h x.1 x.2.1 x.2.2.1 x.2.2.2.1 x.2.2.2.2.1 x.2.2.2.2.2 r h1 h2

theorem fn_isBlk : PureFn Tryz.prog 70 g_isBlk := of_isBlk fun d m1 m2 m3 m4 id0 r h hb => by
  obtain ⟨hx, hs, rfl⟩ := onlyT_of h
  simp only [Prod.mk.injEq, true_and] at hx
  obtain ⟨rfl, rfl, rfl, rfl⟩ := hx
  replace hs : SmallD d := hs
  clear h
  unfold F_isBlk
  refine ixK (fun hn => ?_) fun i j hj hn => ?_
  · have hn : nodeOf d id0 = none := hn
    show _ = T.v (Value.bool (isBlk d id0))
    unfold isBlk; rw [hn]
  · have hn : nodeOf d id0 = some d.2.1[j] := hn
    rw [rowsK_at (r := yNode) hj]
    show _ = T.v (Value.bool (isBlk d id0))
    unfold isBlk; rw [hn]
theorem g_isBlk_ok {d : TDesign} (hs : SmallD d) (id : ByteArray) : g_isBlk (A_isBlk d (ixs (ids d.2.1)) (ixs (ids d.2.2.1)) (ixs (ids d.2.2.2.1)) (ixs (ids d.2.2.2.2.1)) id) = some (Sh.enc [(false, .bool)] (isBlk d id)) := by
  rw [g_isBlk_at]; exact onlyT_ok hs _
def needE (d : TDesign) (x : TNeed) : Int := if x.1 < 1 ∨ 3 < x.1 then 10 else if x.2.2 = x.2.1 then 2 else if isBlk d x.2.1 = false then 8 else if (x.1 = 1 ∧ ¬ x.2.2 = { data := #[] } ∧ isBlk d x.2.2 = false) ∨ (x.1 = 2 ∧ isBlk d x.2.2 = false) ∨ (x.1 = 3 ∧ (packOf d x.2.2).isNone = true) then 8 else 0
set_option maxRecDepth 100000
def A_cNeeds (a0 : TDesign) (m1 : List (ByteArray × Int)) (m2 : List (ByteArray × Int)) (m3 : List (ByteArray × Int)) (m4 : List (ByteArray × Int)) : List T := [tRef a0 m1 m2 m3 m4]
noncomputable def E_cNeeds : Env := Env.of [(70, .pure g_isBlk)]
def H_cNeeds : FuncId → Hint := fun f => match f == 47 with | true => ⟨fun r => match r == 2 with | true => .inv [.val 15 false (.int .i64)] | false => .none, fun _ _ => none, fun _ => none⟩ | false => noHint
theorem Eok_cNeeds : EnvOk Tryz.prog E_cNeeds := EnvOk.cons (x := .pure g_isBlk) fn_isBlk (EnvOk.nil _)
def F_cNeeds (a0 : TDesign) (m1 : List (ByteArray × Int)) (m2 : List (ByteArray × Int)) (m3 : List (ByteArray × Int)) (m4 : List (ByteArray × Int)) (R : T → Prop) : Prop :=
 loopK (Int × PUnit)
 (fun (X0 : Int × PUnit → Prop) (s1 : Int × PUnit) =>
 iteP (decide (s1.fst < (↑(List.map yNeed.enc a0.snd.snd.snd.snd.snd).length : Int)))
 (rowsK yNeed (List.map yNeed.enc a0.snd.snd.snd.snd.snd) s1.fst fun (y2 : TNeed) =>
 findK TypeDesc.string (Value.string y2.snd.snd) (mpD (encM m4)) false
 (Sy.int IntKind.i64)
 (iteP (decide (y2.fst < 1)) (R (T.v (Value.int IntKind.i64 10)))
 (iteP (decide (3 < y2.fst)) (R (T.v (Value.int IntKind.i64 10)))
 (iteP (decide (y2.snd.snd = y2.snd.fst)) (R (T.v (Value.int IntKind.i64 2)))
 (callK [(false, Sy.bool)]
 (g_isBlk
 [T.ref
 [T.ref
 [T.v (Value.string a0.fst), T.sl false (List.map yNode.enc a0.snd.fst),
 T.sl false (List.map yPart.enc a0.snd.snd.fst),
 T.sl false (List.map ySeam.enc a0.snd.snd.snd.fst),
 T.sl false (List.map yPackage.enc a0.snd.snd.snd.snd.fst),
 T.sl false (List.map yNeed.enc a0.snd.snd.snd.snd.snd)],
 T.mp (encM m1), T.mp (encM m2), T.mp (encM m3),
 T.mp (encM m4)],
 T.v (Value.string y2.snd.fst)])
 fun (y10 : Bool) =>
 iteP (!y10) (R (T.v (Value.int IntKind.i64 8)))
 (iteP (decide (y2.fst = 1))
 (iteP (!decide (y2.snd.snd = { data := #[] }))
 (callK [(false, Sy.bool)]
 (g_isBlk
 [T.ref
 [T.ref
 [T.v (Value.string a0.fst),
 T.sl false (List.map yNode.enc a0.snd.fst),
 T.sl false (List.map yPart.enc a0.snd.snd.fst),
 T.sl false (List.map ySeam.enc a0.snd.snd.snd.fst),
 T.sl false (List.map yPackage.enc a0.snd.snd.snd.snd.fst),
 T.sl false (List.map yNeed.enc a0.snd.snd.snd.snd.snd)],
 T.mp (encM m1), T.mp (encM m2), T.mp (encM m3),
 T.mp (encM m4)],
 T.v (Value.string y2.snd.snd)])
 fun (y11 : Bool) =>
 iteP (!y11) (R (T.v (Value.int IntKind.i64 8)))
 (iteP (decide (y2.fst = 2))
 (callK [(false, Sy.bool)]
 (g_isBlk
 [T.ref
 [T.ref
 [T.v (Value.string a0.fst),
 T.sl false (List.map yNode.enc a0.snd.fst),
 T.sl false (List.map yPart.enc a0.snd.snd.fst),
 T.sl false (List.map ySeam.enc a0.snd.snd.snd.fst),
 T.sl false (List.map yPackage.enc a0.snd.snd.snd.snd.fst),
 T.sl false (List.map yNeed.enc a0.snd.snd.snd.snd.snd)],
 T.mp (encM m1), T.mp (encM m2),
 T.mp (encM m3), T.mp (encM m4)],
 T.v (Value.string y2.snd.snd)])
 fun (y12 : Bool) =>
 iteP (!y12) (R (T.v (Value.int IntKind.i64 8)))
 (iteP (decide (y2.fst = 3)) (R (T.v (Value.int IntKind.i64 8)))
 (X0 (IntKind.i64.wrap (s1.fst + 1), ()))))
 (iteP (decide (y2.fst = 3)) (R (T.v (Value.int IntKind.i64 8)))
 (X0 (IntKind.i64.wrap (s1.fst + 1), ())))))
 (iteP (decide (y2.fst = 2))
 (callK [(false, Sy.bool)]
 (g_isBlk
 [T.ref
 [T.ref
 [T.v (Value.string a0.fst),
 T.sl false (List.map yNode.enc a0.snd.fst),
 T.sl false (List.map yPart.enc a0.snd.snd.fst),
 T.sl false (List.map ySeam.enc a0.snd.snd.snd.fst),
 T.sl false (List.map yPackage.enc a0.snd.snd.snd.snd.fst),
 T.sl false (List.map yNeed.enc a0.snd.snd.snd.snd.snd)],
 T.mp (encM m1), T.mp (encM m2), T.mp (encM m3),
 T.mp (encM m4)],
 T.v (Value.string y2.snd.snd)])
 fun (y13 : Bool) =>
 iteP (!y13) (R (T.v (Value.int IntKind.i64 8)))
 (iteP (decide (y2.fst = 3)) (R (T.v (Value.int IntKind.i64 8)))
 (X0 (IntKind.i64.wrap (s1.fst + 1), ()))))
 (iteP (decide (y2.fst = 3)) (R (T.v (Value.int IntKind.i64 8)))
 (X0 (IntKind.i64.wrap (s1.fst + 1), ())))))
 (iteP (decide (y2.fst = 2))
 (callK [(false, Sy.bool)]
 (g_isBlk
 [T.ref
 [T.ref
 [T.v (Value.string a0.fst),
 T.sl false (List.map yNode.enc a0.snd.fst),
 T.sl false (List.map yPart.enc a0.snd.snd.fst),
 T.sl false (List.map ySeam.enc a0.snd.snd.snd.fst),
 T.sl false (List.map yPackage.enc a0.snd.snd.snd.snd.fst),
 T.sl false (List.map yNeed.enc a0.snd.snd.snd.snd.snd)],
 T.mp (encM m1), T.mp (encM m2), T.mp (encM m3),
 T.mp (encM m4)],
 T.v (Value.string y2.snd.snd)])
 fun (y14 : Bool) =>
 iteP (!y14) (R (T.v (Value.int IntKind.i64 8)))
 (iteP (decide (y2.fst = 3)) (R (T.v (Value.int IntKind.i64 8)))
 (X0 (IntKind.i64.wrap (s1.fst + 1), ()))))
 (iteP (decide (y2.fst = 3)) (R (T.v (Value.int IntKind.i64 8)))
 (X0 (IntKind.i64.wrap (s1.fst + 1), ())))))))))
 fun (i3 : Nat) (y4 : Int) =>
 iteP (decide (y2.fst < 1)) (R (T.v (Value.int IntKind.i64 10)))
 (iteP (decide (3 < y2.fst)) (R (T.v (Value.int IntKind.i64 10)))
 (iteP (decide (y2.snd.snd = y2.snd.fst)) (R (T.v (Value.int IntKind.i64 2)))
 (callK [(false, Sy.bool)]
 (g_isBlk
 [T.ref
 [T.ref
 [T.v (Value.string a0.fst), T.sl false (List.map yNode.enc a0.snd.fst),
 T.sl false (List.map yPart.enc a0.snd.snd.fst),
 T.sl false (List.map ySeam.enc a0.snd.snd.snd.fst),
 T.sl false (List.map yPackage.enc a0.snd.snd.snd.snd.fst),
 T.sl false (List.map yNeed.enc a0.snd.snd.snd.snd.snd)],
 T.mp (encM m1), T.mp (encM m2), T.mp (encM m3),
 T.mp (encM m4)],
 T.v (Value.string y2.snd.fst)])
 fun (y5 : Bool) =>
 iteP (!y5) (R (T.v (Value.int IntKind.i64 8)))
 (iteP (decide (y2.fst = 1))
 (iteP (!decide (y2.snd.snd = { data := #[] }))
 (callK [(false, Sy.bool)]
 (g_isBlk
 [T.ref
 [T.ref
 [T.v (Value.string a0.fst),
 T.sl false (List.map yNode.enc a0.snd.fst),
 T.sl false (List.map yPart.enc a0.snd.snd.fst),
 T.sl false (List.map ySeam.enc a0.snd.snd.snd.fst),
 T.sl false (List.map yPackage.enc a0.snd.snd.snd.snd.fst),
 T.sl false (List.map yNeed.enc a0.snd.snd.snd.snd.snd)],
 T.mp (encM m1), T.mp (encM m2), T.mp (encM m3),
 T.mp (encM m4)],
 T.v (Value.string y2.snd.snd)])
 fun (y6 : Bool) =>
 iteP (!y6) (R (T.v (Value.int IntKind.i64 8)))
 (iteP (decide (y2.fst = 2))
 (callK [(false, Sy.bool)]
 (g_isBlk
 [T.ref
 [T.ref
 [T.v (Value.string a0.fst),
 T.sl false (List.map yNode.enc a0.snd.fst),
 T.sl false (List.map yPart.enc a0.snd.snd.fst),
 T.sl false (List.map ySeam.enc a0.snd.snd.snd.fst),
 T.sl false (List.map yPackage.enc a0.snd.snd.snd.snd.fst),
 T.sl false (List.map yNeed.enc a0.snd.snd.snd.snd.snd)],
 T.mp (encM m1), T.mp (encM m2),
 T.mp (encM m3), T.mp (encM m4)],
 T.v (Value.string y2.snd.snd)])
 fun (y7 : Bool) =>
 iteP (!y7) (R (T.v (Value.int IntKind.i64 8)))
 (iteP (decide (y2.fst = 3)) (X0 (IntKind.i64.wrap (s1.fst + 1), ()))
 (X0 (IntKind.i64.wrap (s1.fst + 1), ()))))
 (iteP (decide (y2.fst = 3)) (X0 (IntKind.i64.wrap (s1.fst + 1), ()))
 (X0 (IntKind.i64.wrap (s1.fst + 1), ())))))
 (iteP (decide (y2.fst = 2))
 (callK [(false, Sy.bool)]
 (g_isBlk
 [T.ref
 [T.ref
 [T.v (Value.string a0.fst),
 T.sl false (List.map yNode.enc a0.snd.fst),
 T.sl false (List.map yPart.enc a0.snd.snd.fst),
 T.sl false (List.map ySeam.enc a0.snd.snd.snd.fst),
 T.sl false (List.map yPackage.enc a0.snd.snd.snd.snd.fst),
 T.sl false (List.map yNeed.enc a0.snd.snd.snd.snd.snd)],
 T.mp (encM m1), T.mp (encM m2), T.mp (encM m3),
 T.mp (encM m4)],
 T.v (Value.string y2.snd.snd)])
 fun (y8 : Bool) =>
 iteP (!y8) (R (T.v (Value.int IntKind.i64 8)))
 (iteP (decide (y2.fst = 3)) (X0 (IntKind.i64.wrap (s1.fst + 1), ()))
 (X0 (IntKind.i64.wrap (s1.fst + 1), ()))))
 (iteP (decide (y2.fst = 3)) (X0 (IntKind.i64.wrap (s1.fst + 1), ()))
 (X0 (IntKind.i64.wrap (s1.fst + 1), ())))))
 (iteP (decide (y2.fst = 2))
 (callK [(false, Sy.bool)]
 (g_isBlk
 [T.ref
 [T.ref
 [T.v (Value.string a0.fst),
 T.sl false (List.map yNode.enc a0.snd.fst),
 T.sl false (List.map yPart.enc a0.snd.snd.fst),
 T.sl false (List.map ySeam.enc a0.snd.snd.snd.fst),
 T.sl false (List.map yPackage.enc a0.snd.snd.snd.snd.fst),
 T.sl false (List.map yNeed.enc a0.snd.snd.snd.snd.snd)],
 T.mp (encM m1), T.mp (encM m2), T.mp (encM m3),
 T.mp (encM m4)],
 T.v (Value.string y2.snd.snd)])
 fun (y9 : Bool) =>
 iteP (!y9) (R (T.v (Value.int IntKind.i64 8)))
 (iteP (decide (y2.fst = 3)) (X0 (IntKind.i64.wrap (s1.fst + 1), ()))
 (X0 (IntKind.i64.wrap (s1.fst + 1), ()))))
 (iteP (decide (y2.fst = 3)) (X0 (IntKind.i64.wrap (s1.fst + 1), ()))
 (X0 (IntKind.i64.wrap (s1.fst + 1), ())))))))))
 (R (T.v (Value.int IntKind.i64 0))))
 (0, ())
theorem F_cNeeds_eq (a0 : TDesign) (m1 : List (ByteArray × Int)) (m2 : List (ByteArray × Int)) (m3 : List (ByteArray × Int)) (m4 : List (ByteArray × Int)) (R : T → Prop) : sxTop stdC2 Tryz.prog E_cNeeds H_cNeeds 8 47 (A_cNeeds a0 m1 m2 m3 m4) R = F_cNeeds a0 m1 m2 m3 m4 R := by kernel_rfl
abbrev r_cNeeds : Sh := [(false, Sy.int IntKind.i64)]
theorem r_cNeeds_call (y : Sh.den r_cNeeds) (K : Sh.den r_cNeeds → Prop) : callK r_cNeeds (some (Sh.enc r_cNeeds y)) K = K y := callK_enc rfl y K

theorem A_cNeeds_inj (x y : TDesign × MP × MP × MP × MP) (h : A_cNeeds x.1 x.2.1 x.2.2.1 x.2.2.2.1 x.2.2.2.2 = A_cNeeds y.1 y.2.1 y.2.2.1 y.2.2.2.1 y.2.2.2.2) : x = y := tRef_inj (List.cons.inj h).1
def sp_cNeeds (x : TDesign × MP × MP × MP × MP) : Option T := onlyT x (T.v (Value.int .i64 (firstE (needE x.1) x.1.2.2.2.2.2)))
noncomputable def g_cNeeds : List T → Option (T) := gA (fun (x : TDesign × (List (ByteArray × Int)) × (List (ByteArray × Int)) × (List (ByteArray × Int)) × List (ByteArray × Int)) => A_cNeeds x.1 x.2.1 x.2.2.1 x.2.2.2.1 x.2.2.2.2) sp_cNeeds
theorem g_cNeeds_at (a0 : TDesign) (m1 : List (ByteArray × Int)) (m2 : List (ByteArray × Int)) (m3 : List (ByteArray × Int)) (m4 : List (ByteArray × Int)) : g_cNeeds (A_cNeeds a0 m1 m2 m3 m4) = sp_cNeeds (a0, m1, m2, m3, m4) := gA_at (A := (fun (x : TDesign × (List (ByteArray × Int)) × (List (ByteArray × Int)) × (List (ByteArray × Int)) × List (ByteArray × Int)) => A_cNeeds x.1 x.2.1 x.2.2.1 x.2.2.2.1 x.2.2.2.2)) A_cNeeds_inj (a0, m1, m2, m3, m4)
theorem of_cNeeds (h : ∀ (a0 : TDesign) (m1 : List (ByteArray × Int)) (m2 : List (ByteArray × Int)) (m3 : List (ByteArray × Int)) (m4 : List (ByteArray × Int)) (r : T), sp_cNeeds (a0, m1, m2, m3, m4) = some r → (∀ t ∈ A_cNeeds a0 m1 m2 m3 m4, Bd t) → F_cNeeds a0 m1 m2 m3 m4 (fun y => y = r)) : PureFn Tryz.prog 47 g_cNeeds :=
  pureFn_A (E := E_cNeeds) (Hs := H_cNeeds) Eok_cNeeds mixed' plain' (noHeap_of rfl) 8 ⟨_, _, Tryz.func47, rfl⟩ fun x r h1 h2 => by
    rw [F_cNeeds_eq]
    exact h x.1 x.2.1 x.2.2.1 x.2.2.2.1 x.2.2.2.2 r h1 h2

theorem fn_cNeeds : PureFn Tryz.prog 47 g_cNeeds := of_cNeeds fun d m1 m2 m3 m4 r h hb => by
  obtain ⟨hx, hs, rfl⟩ := onlyT_of h
  simp only [Prod.mk.injEq, true_and] at hx
  obtain ⟨rfl, rfl, rfl, rfl⟩ := hx
  replace hs : SmallD d := hs
  clear h
  unfold F_cNeeds
  refine first_loop (r := yNeed) (needE d) hs.r (fun X s y hy hok hbad => ?_) fun h0 => ?_
  · have bad : ∀ {n : Int}, n ≠ 0 → needE d y = n → T.v (Value.int IntKind.i64 n) = T.v (Value.int IntKind.i64 (firstE (needE d) d.2.2.2.2.2)) := fun hn h => by
      rw [hbad (by rw [h]; exact hn), h]
    clear hbad hb
    repeat' first
      | refine ixK (fun hn => ?_) (fun i j hj hn => ?_)
      | rw [isId_call]
      | refine callK_some (s := [(false, .bool)]) (g_isBlk_ok hs _) ?_
      | refine ifQ (fun h => ?_) (fun h => ?_)
      | refine ifP (fun h => ?_) (fun h => ?_)
      | refine ifNB (fun h => ?_) (fun h => ?_)
    all_goals first
      | (exfalso; omega)
      | (refine bad (by decide) ?_; clear bad hok; unfold needE; simp [*, partOf, packOf]; done)
      | (refine hok ?_; clear bad hok; unfold needE; simp [*, partOf, packOf]; done)
      | (refine hok ?_; clear bad hok hs hy; unfold needE; simp_all [partOf, packOf]; done)
  · show _ = T.v (Value.int IntKind.i64 (firstE (needE d) d.2.2.2.2.2))
    rw [h0]
end Go.Pv
set_option linter.unusedSimpArgs false
set_option linter.unusedVariables false
set_option maxRecDepth 100000
namespace Go.Pv
open Go Go.Proofs
abbrev ySE : Sy := .pr (.int .i64) (.int .i64)
set_option maxRecDepth 100000
noncomputable def E_ends : Env := Env.of []
def H_ends : FuncId → Hint := fun f => match f == 90 with | true => ⟨fun r => match r == 2 with | true => .inv [.val 9 false (.int .i64)] | false => .none, fun _ _ => none, fun _ => none⟩ | false => noHint
theorem Eok_ends : EnvOk Tryz.prog E_ends := EnvOk.nil _
def F_ends (a0 : Int) (a1 : List TPoint) (R : T → Prop) : Prop :=
 loopK (Int × PUnit)
 (fun (X0 : Int × PUnit → Prop) (s1 : Int × PUnit) =>
 iteP (decide (s1.fst < (↑(List.map yPoint.enc a1).length : Int)))
 (rowsK yPoint (List.map yPoint.enc a1) s1.fst fun (y2 : TPoint) =>
 iteP (decide (y2.fst < 0)) (R (T.v (Value.int IntKind.i64 9)))
 (iteP (decide (a0 ≤ y2.fst)) (R (T.v (Value.int IntKind.i64 9)))
 (iteP (decide (y2.snd < 0)) (R (T.v (Value.int IntKind.i64 9)))
 (iteP (decide (a0 ≤ y2.snd)) (R (T.v (Value.int IntKind.i64 9)))
 (iteP (decide (y2.fst = y2.snd)) (R (T.v (Value.int IntKind.i64 2)))
 (X0 (IntKind.i64.wrap (s1.fst + 1), ())))))))
 (R (T.v (Value.int IntKind.i64 0))))
 (0, ())
theorem F_ends_eq (a0 : Int) (a1 : List TPoint) (R : T → Prop) : sxTop stdC2 Tryz.prog E_ends H_ends 8 90 [encV false (Sy.int IntKind.i64) a0, encV false yPoint.li a1] R = F_ends a0 a1 R := by kernel_rfl
abbrev s_ends : Sh := [(false, (Sy.int IntKind.i64)), (false, yPoint.li)]
abbrev r_ends : Sh := [(false, Sy.int IntKind.i64)]
theorem r_ends_call (y : Sh.den r_ends) (K : Sh.den r_ends → Prop) : callK r_ends (some (Sh.enc r_ends y)) K = K y := callK_enc rfl y K

def endE (n : Int) (x : TPoint) : Int := if x.1 < 0 ∨ n ≤ x.1 ∨ x.2 < 0 ∨ n ≤ x.2 then 9 else if x.1 = x.2 then 2 else 0
def sp_ends (x : Int × List TPoint) : Option T := onlyL x.2 (T.v (Value.int .i64 (firstE (endE x.1) x.2)))
noncomputable def g_ends : List T → Option (T) := gS s_ends sp_ends
theorem g_ends_at {a0 : Int} {a1 : List TPoint} : g_ends [T.v (Value.int IntKind.i64 a0), T.sl false (List.map yPoint.enc a1)] = sp_ends (a0, a1) := gS_enc (s := s_ends) rfl (a0, a1) rfl
theorem g_ends_op {u0 u1} : g_ends [T.v (Value.int IntKind.i64 u0), T.sl false (List.map yPoint.enc u1)] = sp_ends (u0, u1) := gS_enc (s := s_ends) rfl (u0, u1) rfl
theorem of_ends (h : ∀ (a0 : Int) (a1 : List TPoint) (r : T), sp_ends (a0, a1) = some r → BdSh s_ends (a0, a1) → F_ends a0 a1 (fun y => y = r)) : PureFn Tryz.prog 90 g_ends :=
  pureFn_S (E := E_ends) (Hs := H_ends) Eok_ends mixed' plain' (noHeap_of rfl) 8 ⟨_, _, Tryz.func90, rfl⟩ rfl fun x r h1 h2 => by
    obtain ⟨a0, a1⟩ := x
    rw [show Sh.encs s_ends (a0, a1) = [encV false (Sy.int IntKind.i64) a0, encV false yPoint.li a1] from rfl, F_ends_eq]
    exact h a0 a1 r h1 h2

theorem fn_ends : PureFn Tryz.prog 90 g_ends := of_ends fun n l r h hb => by
  obtain ⟨hl, rfl⟩ := onlyL_of h
  clear h
  unfold F_ends
  refine first_loop (r := yPoint) (endE n) hl (fun X s y hy hok hbad => ?_) fun h0 => ?_
  · have bad : ∀ {m : Int}, m ≠ 0 → endE n y = m → T.v (Value.int IntKind.i64 m) = T.v (Value.int IntKind.i64 (firstE (endE n) l)) := fun hn h => by
      rw [hbad (by rw [h]; exact hn), h]
    clear hbad hb
    repeat' first
      | refine ifQ (fun h => ?_) (fun h => ?_)
      | refine ifP (fun h => ?_) (fun h => ?_)
    all_goals first
      | (exfalso; omega)
      | (refine bad (by decide) ?_; clear bad hok; unfold endE; first | (rw [if_pos (by omega)]; done) | (rw [if_neg (by omega), if_pos (by omega)]; done))
      | (refine hok ?_; clear bad hok; unfold endE; rw [if_neg (by omega), if_neg (by omega)]; done)
  · show _ = T.v (Value.int IntKind.i64 (firstE (endE n) l))
    rw [h0]
set_option maxRecDepth 100000
noncomputable def E_order : Env := Env.of [(90, .pure g_ends)]
def H_order : FuncId → Hint := fun f => match f == 72 with | true => ⟨fun r => match r == 8 with | true => .inv [.arr 0 1 (.int .i64), .val 31 false (.int .i64)] | false => match r == 14 with | true => .inv [.arr 0 1 (.int .i64), .own 10 1 (.int .i64), .arr 2 1 .bool] | false => match r == 16 with | true => .inv [.val 52 false (.int .i64), .fix 0, .fix 2, .fix 3] | false => match r == 22 with | true => .inv [.arr 0 1 (.int .i64), .val 75 false (.int .i64)] | false => .none, fun _ _ => none, fun _ => none⟩ | false => noHint
theorem Eok_order : EnvOk Tryz.prog E_order := EnvOk.cons (x := .pure g_ends) fn_ends (EnvOk.nil _)
def F_order (a0 : Int) (a1 : List TPoint) (R : T → Prop) : Prop :=
 iteP (decide (a0 < 0))
 (reqK (T.v (Value.int IntKind.i64 9)).flat
 (R (T.tup [T.sl false [], T.v (Value.int IntKind.i64 9)])))
 (iteP (decide (256 < a0))
 (reqK (T.v (Value.int IntKind.i64 9)).flat
 (R (T.tup [T.sl false [], T.v (Value.int IntKind.i64 9)])))
 (callK [(false, Sy.int IntKind.i64)]
 (g_ends [T.v (Value.int IntKind.i64 a0), T.sl false (List.map yPoint.enc a1)])
 fun (y0 : Int) =>
 iteP (!decide (y0 = 0))
 (reqK (T.v (Value.int IntKind.i64 y0)).flat
 (R (T.tup [T.sl false [], T.v (Value.int IntKind.i64 y0)])))
 (reqK
 ((decide (a0 = a0) || decide (a0 = 0)) && decide (0 ≤ a0) && decide (a0 * (↑8 : Int) ≤ 140737488355328) &&
 decide (a0 ≤ 140737488355328))
 (decK (Sy.int IntKind.i64)
 (List.replicate (Int.toNat a0) [T.v (Value.int IntKind.i64 0)]) fun (y1 : List Int) =>
 loopK (List Int × Int × PUnit)
 (fun (X2 : List Int × Int × PUnit → Prop) (s3 : List Int × Int × PUnit) =>
 iteP (decide (s3.snd.fst < (↑(List.map yPoint.enc a1).length : Int)))
 (rowsK yPoint (List.map yPoint.enc a1) s3.snd.fst fun (y4 : TPoint) =>
 rowsK (Sy.int IntKind.i64) (List.map (Sy.int IntKind.i64).enc s3.fst) y4.snd
 fun (y5 : Int) =>
 partK (Sy.int IntKind.i64) (List.map (Sy.int IntKind.i64).enc s3.fst)
 (Int.toNat y4.snd) 0 fun (y6 : Int) =>
 rowsK (Sy.int IntKind.i64) (List.map (Sy.int IntKind.i64).enc s3.fst)
 y4.snd fun (y7 : Int) =>
 rowK (List.map (Sy.int IntKind.i64).enc s3.fst) (Int.toNat y4.snd)
 fun (y8 : List T) =>
 reqK (decide (1 ≤ y8.length))
 (decK (Sy.int IntKind.i64)
 ((List.map (Sy.int IntKind.i64).enc s3.fst).set (Int.toNat y4.snd)
 (splice y8 0
 [T.v (Value.int IntKind.i64 (IntKind.i64.wrap (y6 + 1)))]))
 fun (y9 : List Int) => X2 (y9, IntKind.i64.wrap (s3.snd.fst + 1), ())))
 (reqK
 ((decide (0 = a0) || true) && decide (0 ≤ a0) && decide (a0 * (↑8 : Int) ≤ 140737488355328) &&
 decide (a0 ≤ 140737488355328))
 (reqK
 ((decide (a0 = a0) || decide (a0 = 0)) && decide (0 ≤ a0) &&
 decide (a0 * (↑1 : Int) ≤ 140737488355328) &&
 decide (a0 ≤ 140737488355328))
 (decK (Sy.int IntKind.i64) (List.map (Sy.int IntKind.i64).enc s3.fst)
 fun (y10 : List Int) =>
 decK (Sy.int IntKind.i64) [] fun (y11 : List Int) =>
 decK Sy.bool (List.replicate (Int.toNat a0) [T.v (Value.bool false)])
 fun (y12 : List Bool) =>
 loopK (List Int × List Int × List Bool × PUnit)
 (fun (X13 : List Int × List Int × List Bool × PUnit → Prop)
 (s14 : List Int × List Int × List Bool × PUnit) =>
 iteP
 (decide
 ((↑(List.map (Sy.int IntKind.i64).enc s14.snd.fst).length : Int) < a0))
 (sameK
 (Box.arr false 1 (List.map (Sy.int IntKind.i64).enc s14.fst))
 (Box.arr false 1 (List.map (Sy.int IntKind.i64).enc s14.fst))
 (sameK (Box.arr false 1 (List.map Sy.bool.enc s14.snd.snd.fst))
 (Box.arr false 1 (List.map Sy.bool.enc s14.snd.snd.fst))
 (sameK
 (Box.arr false 1 (List.map (Sy.int IntKind.i64).enc s14.snd.fst))
 (Box.arr false 1 (List.map (Sy.int IntKind.i64).enc s14.snd.fst))
 (loopK (Int × PUnit × PUnit × PUnit × PUnit)
 (fun (X15 : Int × PUnit × PUnit × PUnit × PUnit → Prop)
 (s16 : Int × PUnit × PUnit × PUnit × PUnit) =>
 iteP (decide (s16.fst < a0))
 (rowsK Sy.bool (List.map Sy.bool.enc s14.snd.snd.fst)
 s16.fst fun (y17 : Bool) =>
 partK Sy.bool (List.map Sy.bool.enc s14.snd.snd.fst)
 (Int.toNat s16.fst) 0 fun (y18 : Bool) =>
 iteP y18
 (sameK
 (Box.arr false 1
 (List.map (Sy.int IntKind.i64).enc s14.fst))
 (Box.arr false 1
 (List.map (Sy.int IntKind.i64).enc s14.fst))
 (sameK
 (Box.arr false 1
 (List.map Sy.bool.enc s14.snd.snd.fst))
 (Box.arr false 1
 (List.map Sy.bool.enc s14.snd.snd.fst))
 (sameK
 (Box.arr false 1
 (List.map (Sy.int IntKind.i64).enc s14.snd.fst))
 (Box.arr false 1
 (List.map (Sy.int IntKind.i64).enc s14.snd.fst))
 (X15 (IntKind.i64.wrap (s16.fst + 1), (), (), (), ())))))
 (rowsK (Sy.int IntKind.i64)
 (List.map (Sy.int IntKind.i64).enc s14.fst) s16.fst
 fun (y19 : Int) =>
 partK (Sy.int IntKind.i64)
 (List.map (Sy.int IntKind.i64).enc s14.fst)
 (Int.toNat s16.fst) 0 fun (y20 : Int) =>
 iteP (decide (0 < y20))
 (sameK
 (Box.arr false 1
 (List.map (Sy.int IntKind.i64).enc s14.fst))
 (Box.arr false 1
 (List.map (Sy.int IntKind.i64).enc s14.fst))
 (sameK
 (Box.arr false 1
 (List.map Sy.bool.enc s14.snd.snd.fst))
 (Box.arr false 1
 (List.map Sy.bool.enc s14.snd.snd.fst))
 (sameK
 (Box.arr false 1
 (List.map (Sy.int IntKind.i64).enc
 s14.snd.fst))
 (Box.arr false 1
 (List.map (Sy.int IntKind.i64).enc
 s14.snd.fst))
 (X15
 (IntKind.i64.wrap (s16.fst + 1), (), (), (),
 ())))))
 (rowsK Sy.bool
 (List.map Sy.bool.enc s14.snd.snd.fst) s16.fst
 fun (y21 : Bool) =>
 rowK (List.map Sy.bool.enc s14.snd.snd.fst)
 (Int.toNat s16.fst) fun (y22 : List T) =>
 reqK (decide (1 ≤ y22.length))
 (reqK
 (decide
 (((List.map (Sy.int IntKind.i64).enc
 s14.snd.fst).length +
 1) *
 8 ≤
 140737488355328) &&
 decide
 ((List.map (Sy.int IntKind.i64).enc
 s14.snd.fst).length +
 1 ≤
 140737488355328))
 (decK (Sy.int IntKind.i64)
 (List.map (Sy.int IntKind.i64).enc s14.fst)
 fun (y23 : List Int) =>
 loopK (List Int × Int × PUnit)
 (fun (X24 : List Int × Int × PUnit → Prop)
 (s25 : List Int × Int × PUnit) =>
 iteP
 (decide
 (s25.snd.fst <
 (↑(List.map yPoint.enc a1).length :
 Int)))
 (rowsK yPoint
 (List.map yPoint.enc a1) s25.snd.fst
 fun (y26 : TPoint) =>
 iteP (decide (y26.fst = s16.fst))
 (rowsK (Sy.int IntKind.i64)
 (List.map
 (Sy.int IntKind.i64).enc
 s25.fst)
 y26.snd fun (y27 : Int) =>
 partK
 (Sy.int IntKind.i64)
 (List.map
 (Sy.int IntKind.i64).enc
 s25.fst)
 (Int.toNat y26.snd) 0
 fun (y28 : Int) =>
 rowsK
 (Sy.int IntKind.i64)
 (List.map
 (Sy.int IntKind.i64).enc
 s25.fst)
 y26.snd fun (y29 : Int) =>
 rowK
 (List.map
 (Sy.int
 IntKind.i64).enc
 s25.fst)
 (Int.toNat y26.snd)
 fun (y30 : List T) =>
 reqK
 (decide (1 ≤ y30.length))
 (decK
 (Sy.int IntKind.i64)
 ((List.map
 (Sy.int
 IntKind.i64).enc
 s25.fst).set
 (Int.toNat y26.snd)
 (splice y30 0
 [T.v
 (Value.int
 IntKind.i64
 (IntKind.i64.wrap
 (y28 - 1)))]))
 fun (y31 : List Int) =>
 X24
 (y31,
 IntKind.i64.wrap
 (s25.snd.fst + 1),
 ())))
 (decK (Sy.int IntKind.i64)
 (List.map
 (Sy.int IntKind.i64).enc
 s25.fst)
 fun (y32 : List Int) =>
 X24
 (y32,
 IntKind.i64.wrap
 (s25.snd.fst + 1),
 ())))
 (decK (Sy.int IntKind.i64)
 (List.map (Sy.int IntKind.i64).enc
 s25.fst)
 fun (y33 : List Int) =>
 decK (Sy.int IntKind.i64)
 (List.map
 (Sy.int IntKind.i64).enc
 s14.snd.fst ++
 [[T.v
 (Value.int IntKind.i64
 s16.fst)]])
 fun (y34 : List Int) =>
 decK Sy.bool
 ((List.map Sy.bool.enc
 s14.snd.snd.fst).set
 (Int.toNat s16.fst)
 (splice y22 0
 [T.v (Value.bool true)]))
 fun (y35 : List Bool) =>
 X13 (y33, y34, y35, ())))
 (y23, 0, ()))))))
 (reqK (T.v (Value.int IntKind.i64 20)).flat
 (R
 (T.tup
 [T.sl false [],
 T.v (Value.int IntKind.i64 20)]))))
 (0, (), (), (), ())))))
 (reqK
 ((List.map (Sy.int IntKind.i64).enc s14.snd.fst).all
 fun (r : List T) => r.all T.flat)
 (reqK (T.v (Value.int IntKind.i64 0)).flat
 (R
 (T.tup
 [T.sl false (List.map (Sy.int IntKind.i64).enc s14.snd.fst),
 T.v (Value.int IntKind.i64 0)])))))
 (y10, y11, y12, ())))))
 (y1, 0, ())))))
theorem F_order_eq (a0 : Int) (a1 : List TPoint) (R : T → Prop) : sxTopN stdC2 Tryz.prog E_order H_order 8 72 [encV false (Sy.int IntKind.i64) a0, encV false yPoint.li a1] R = F_order a0 a1 R := by kernel_rfl
abbrev s_order : Sh := [(false, (Sy.int IntKind.i64)), (false, yPoint.li)]
abbrev r_order : Sh := [(false, (Sy.int IntKind.i64).li), (false, Sy.int IntKind.i64)]
theorem r_order_call (y : Sh.den r_order) (K : Sh.den r_order → Prop) : callK r_order (some (Sh.enc r_order y)) K = K y := callK_enc rfl y K

/-- The order that takes the first free node. -/
def cntE (b : List Int) (e : TPoint) : List Int := b.set e.2.toNat (IntKind.i64.wrap (b.getD e.2.toNat 0 + 1))
def decE (v : Int) (b : List Int) (e : TPoint) : List Int := if e.1 = v then b.set e.2.toNat (IntKind.i64.wrap (b.getD e.2.toNat 0 - 1)) else b
def freeV (b : List Int) (t : List Bool) (k : Nat) : Bool := !t.getD k false && decide (b.getD k 0 ≤ 0)
def ordRun (l : List TPoint) (n : Nat) : Nat → List Int → List Int → List Bool → List Int × Int
  | 0, _, o, _ => (o, 0)
  | f + 1, b, o, t => match (List.range n).find? (freeV b t) with
    | none => ([], 20)
    | some v => ordRun l n f (l.foldl (decE v) b) (o ++ [(v : Int)]) (t.set v true)
def orderE (n : Int) (l : List TPoint) : List Int × Int :=
  if n < 0 ∨ 256 < n then ([], 9) else if firstE (endE n) l = 0 then ordRun l n.toNat n.toNat (l.foldl cntE (List.replicate n.toNat 0)) [] (List.replicate n.toNat false) else ([], firstE (endE n) l)
theorem cntE_len (b : List Int) (e : TPoint) : (cntE b e).length = b.length := by unfold cntE; rw [List.length_set]
theorem decE_len (v : Int) (b : List Int) (e : TPoint) : (decE v b e).length = b.length := by unfold decE; split <;> simp
theorem fold_len {α β : Type} {f : List β → α → List β} (hf : ∀ b e, (f b e).length = b.length) : ∀ (l : List α) (b : List β), (l.foldl f b).length = b.length
  | [], _ => rfl
  | e :: l, b => (fold_len hf l (f b e)).trans (hf b e)
theorem firstE_z {α : Type} {f : α → Int} : ∀ {l : List α}, firstE f l = 0 → ∀ a ∈ l, f a = 0
  | [], _, _, h => by cases h
  | b :: l, h, a, ha => by
    unfold firstE at h
    split at h
    · rename_i hb
      rcases List.mem_cons.1 ha with rfl | ha
      · exact hb
      · exact firstE_z h a ha
    · exact absurd h ‹_›
theorem rowsK_int {r : Sy} {l : List r.den} {i : Int} (h0 : 0 ≤ i) (h : i.toNat < l.length) (K : r.den → Prop) : rowsK r (List.map r.enc l) i K = K l[i.toNat] := by
  have e : i = ((i.toNat : Nat) : Int) := by omega
  have := rowsK_at h K
  rw [← e] at this
  exact this
/-- One element of an array of single cells is written. -/
theorem set_int {l : List Int} {k : Nat} (h : k < l.length) (y : Int) : (List.map (Sy.int .i64).enc l).set k (splice ((Sy.int .i64).enc l[k]) 0 [T.v (.int .i64 y)]) = List.map (Sy.int .i64).enc (l.set k y) := by
  rw [List.map_set]; rfl
theorem set_bool {l : List Bool} {k : Nat} (h : k < l.length) (y : Bool) : (List.map Sy.bool.enc l).set k (splice (Sy.bool.enc l[k]) 0 [T.v (.bool y)]) = List.map Sy.bool.enc (l.set k y) := by
  rw [List.map_set]; rfl
theorem getD_el {α : Type} {l : List α} {k : Nat} (d : α) (h : k < l.length) : l.getD k d = l[k] := by simp [List.getD, h]
theorem rep_int (n : Nat) : List.replicate n [T.v (Value.int .i64 0)] = List.map (Sy.int .i64).enc (List.replicate n 0) := by rw [List.map_replicate]; rfl
theorem rep_bool (n : Nat) : List.replicate n [T.v (Value.bool false)] = List.map Sy.bool.enc (List.replicate n false) := by rw [List.map_replicate]; rfl
theorem flat_ints (l : List Int) : ((List.map (Sy.int .i64).enc l).all fun (r : List T) => r.all T.flat) = true := by
  rw [List.all_map, List.all_eq_true]; intro a _; rfl
def sp_order (x : Int × List TPoint) : Option T := onlyL x.2 (Sh.enc r_order (orderE x.1 x.2))
noncomputable def g_order : List T → Option (T) := gS s_order sp_order
theorem g_order_at {a0 : Int} {a1 : List TPoint} : g_order [T.v (Value.int IntKind.i64 a0), T.sl false (List.map yPoint.enc a1)] = sp_order (a0, a1) := gS_enc (s := s_order) rfl (a0, a1) rfl
theorem g_order_op {u0 u1} : g_order [T.v (Value.int IntKind.i64 u0), T.sl false (List.map yPoint.enc u1)] = sp_order (u0, u1) := gS_enc (s := s_order) rfl (u0, u1) rfl
theorem of_order (h : ∀ (a0 : Int) (a1 : List TPoint) (r : T), sp_order (a0, a1) = some r → BdSh s_order (a0, a1) → F_order a0 a1 (fun y => y = r)) : NewFn Tryz.prog 72 g_order :=
  newFn_S (E := E_order) (Hs := H_order) Eok_order mixed' plain' (noHeap_of rfl) 8 ⟨_, _, Tryz.func72, rfl⟩ rfl fun x r h1 h2 => by
    obtain ⟨a0, a1⟩ := x
    rw [show Sh.encs s_order (a0, a1) = [encV false (Sy.int IntKind.i64) a0, encV false yPoint.li a1] from rfl, F_order_eq]
    exact h a0 a1 r h1 h2

theorem fn_order : NewFn Tryz.prog 72 g_order := of_order fun n l r h hb => by
  obtain ⟨hl, rfl⟩ := onlyL_of h
  clear h
  have hl : l.length ≤ 140737488355328 := hl
  unfold F_order
  refine ifP (fun h => ?_) fun hn0 => ?_
  · refine ⟨rfl, ?_⟩
    show _ = Sh.enc r_order (orderE n l)
    rw [orderE, if_pos (Or.inl h)]; rfl
  refine ifP (fun h => ?_) fun hn1 => ?_
  · refine ⟨rfl, ?_⟩
    show _ = Sh.enc r_order (orderE n l)
    rw [orderE, if_pos (Or.inr h)]; rfl
  refine callK_some (s := [(false, .int .i64)]) (y := firstE (endE n) l) (by rw [g_ends_at]; exact onlyL_ok _ hl) ?_
  refine ifQ (fun h0 => ?_) (fun h0 => ?_)
  · refine ⟨rfl, ?_⟩
    show _ = Sh.enc r_order (orderE n l)
    rw [orderE, if_neg (by omega), if_neg h0]; rfl
  have hv : orderE n l = ordRun l n.toNat n.toNat (l.foldl cntE (List.replicate n.toNat 0)) [] (List.replicate n.toNat false) := by
    rw [orderE, if_neg (by omega), if_pos h0]
  have hend : ∀ e ∈ l, 0 ≤ e.1 ∧ e.1 < n ∧ 0 ≤ e.2 ∧ e.2 < n := fun e he => by
    have := firstE_z h0 e he
    unfold endE at this
    split at this
    · exact absurd this (by decide)
    · omega
  clear h0 hb
  obtain ⟨N, rfl⟩ : ∃ N : Nat, n = (N : Int) := ⟨n.toNat, by omega⟩
  rw [Int.toNat_natCast] at hv ⊢
  refine ⟨by simp; omega, ?_⟩
  rw [rep_int, decK_map rfl]
  refine loopK_ix l.length (fun k s => s.2.1 = (k : Int) ∧ s.1.length = N ∧ (l.drop k).foldl cntE s.1 = l.foldl cntE (List.replicate N 0)) ⟨rfl, by simp, rfl⟩ ?_
  rintro X k ⟨b, i, u⟩ hk ⟨rfl, hbl, hbf⟩ hX
  dsimp only at hbl hbf ⊢
  refine ifP (fun hlt => ?_) fun hge => ?_
  · rw [List.length_map] at hlt
    have hlt : k < l.length := by omega
    rw [rowsK_at hlt]
    obtain ⟨-, -, e0, e1⟩ := hend _ (List.getElem_mem hlt)
    have hj : (l[k].2).toNat < b.length := by omega
    rw [rowsK_int e0 hj, partK_at hj, rowsK_int e0 hj, rowK_at hj]
    refine ⟨rfl, ?_⟩
    rw [set_int hj, decK_map rfl]
    refine hX _ hlt ⟨?_, ?_, ?_⟩
    · show IntKind.i64.wrap ((k : Int) + 1) = _
      rw [wrap_id] <;> omega
    · show (List.set _ _ _).length = N
      rw [List.length_set]; exact hbl
    · rw [List.drop_eq_getElem_cons hlt, List.foldl_cons] at hbf
      rw [← hbf]
      congr 1
      unfold cntE
      rw [getD_el (l := b) 0 hj]
  rw [List.length_map] at hge
  have hkl : k = l.length := by omega
  subst hkl
  rw [List.drop_length, List.foldl_nil] at hbf
  rw [← hbf] at hv
  refine ⟨by simp; omega, ⟨by simp; omega, ?_⟩⟩
  rw [decK_map rfl, decK_nil, rep_bool, decK_map rfl]
  clear hX hge hbf
  refine loopK_ix N (fun k s => s.1.length = N ∧ s.2.1.length = k ∧ s.2.2.1.length = N ∧ ordRun l N (N - k) s.1 s.2.1 s.2.2.1 = orderE N l) ⟨hbl, rfl, by simp, by rw [hv]; rfl⟩ ?_
  clear hv hbl b u
  rintro X k ⟨b, o, t, u⟩ hk ⟨hbl, hol, htl, hr⟩ hX
  dsimp only at hbl hol htl hr ⊢
  refine ifP (fun hlt => ?_) fun hge => ?_
  · rw [List.length_map, hol] at hlt
    have hlt : k < N := by omega
    rw [sameK_self, sameK_self, sameK_self]
    obtain ⟨m, hm⟩ : ∃ m, N - k = m + 1 := ⟨N - k - 1, by omega⟩
    rw [hm, ordRun] at hr
    refine loopK_ix N (fun j s => s.1 = (j : Int) ∧ (List.range N).find? (freeV b t) = (List.range' j (N - j)).find? (freeV b t)) ⟨rfl, by rw [List.range_eq_range']; rfl⟩ ?_
    rintro Y j ⟨i, u1, u2, u3, u4⟩ hj ⟨rfl, hf⟩ hY
    dsimp only at hf ⊢
    refine ifP (fun hjn => ?_) fun hjn => ?_
    · have hjn : j < N := by omega
      have hjb : j < b.length := by omega
      have hjt : j < t.length := by omega
      obtain ⟨q, hq⟩ : ∃ q, N - j = q + 1 := ⟨N - j - 1, by omega⟩
      rw [hq, List.range'_succ, List.find?_cons] at hf
      have next : freeV b t j = false → Y (IntKind.i64.wrap ((j : Int) + 1), (), (), (), ()) := fun h => by
        refine hY _ hjn ⟨?_, ?_⟩
        · show IntKind.i64.wrap ((j : Int) + 1) = _
          rw [wrap_id] <;> omega
        · rw [hf, h]
          rw [show N - (j + 1) = q by omega]
      simp only [Int.toNat_natCast]
      rw [rowsK_at hjt, partK_at hjt]
      refine ifB (fun ht => ?_) fun ht => ?_
      · rw [sameK_self, sameK_self, sameK_self]
        exact next (by rw [freeV, getD_el (l := t) false hjt, ht]; rfl)
      rw [rowsK_at hjb, partK_at hjb]
      refine ifP (fun hp => ?_) fun hp => ?_
      · rw [sameK_self, sameK_self, sameK_self]
        exact next (by rw [freeV, getD_el (l := b) 0 hjb, decide_eq_false (by omega), Bool.and_false])
      have hfree : freeV b t j = true := by rw [freeV, getD_el (l := b) 0 hjb, getD_el (l := t) false hjt, ht, decide_eq_true (by omega)]; rfl
      rw [hfree] at hf
      rw [hf] at hr
      dsimp only at hr
      clear next hY hf
      rw [rowsK_at hjt, rowK_at hjt]
      refine ⟨rfl, ⟨by simp; omega, ?_⟩⟩
      rw [decK_map rfl]
      refine loopK_ix l.length (fun k s => s.2.1 = (k : Int) ∧ s.1.length = N ∧ (l.drop k).foldl (decE j) s.1 = l.foldl (decE j) b) ⟨rfl, hbl, rfl⟩ ?_
      rintro Z i ⟨c, i', u⟩ hi ⟨rfl, hcl, hcf⟩ hZ
      dsimp only at hcl hcf ⊢
      refine ifP (fun hlt => ?_) fun hge => ?_
      · rw [List.length_map] at hlt
        have hlt : i < l.length := by omega
        rw [rowsK_at hlt]
        obtain ⟨-, -, e0, e1⟩ := hend _ (List.getElem_mem hlt)
        have hjc : (l[i].2).toNat < c.length := by omega
        rw [List.drop_eq_getElem_cons hlt, List.foldl_cons] at hcf
        have hw : IntKind.i64.wrap ((i : Int) + 1) = ((i + 1 : Nat) : Int) := by rw [wrap_id] <;> omega
        refine ifP (fun hv => ?_) fun hv => ?_
        · rw [rowsK_int e0 hjc, partK_at hjc, rowsK_int e0 hjc, rowK_at hjc]
          refine ⟨rfl, ?_⟩
          rw [set_int hjc, decK_map rfl]
          refine hZ _ hlt ⟨hw, ?_, ?_⟩
          · show (List.set _ _ _).length = N
            rw [List.length_set]; exact hcl
          · rw [← hcf]
            congr 1
            unfold decE
            rw [if_pos hv, getD_el (l := c) 0 hjc]
        · rw [decK_map rfl]
          refine hZ _ hlt ⟨hw, hcl, ?_⟩
          rw [← hcf]
          congr 1
          unfold decE
          rw [if_neg hv]
      · rw [List.length_map] at hge
        have hil : i = l.length := by omega
        subst hil
        rw [List.drop_length, List.foldl_nil] at hcf
        rw [decK_map rfl, decK_snoc (r := .int .i64) rfl o [T.v (.int .i64 (j : Int))] (j : Int) rfl, set_bool hjt, decK_map rfl]
        refine hX _ hlt ⟨hcl, by simp [hol], by simp [htl], ?_⟩
        rw [show N - (k + 1) = m by omega]
        show ordRun l N m c (o ++ [(j : Int)]) (t.set j true) = _
        rw [hcf]; exact hr
    · have hjn : j = N := by omega
      subst hjn
      rw [Nat.sub_self] at hf
      rw [show (List.range' j 0) = [] from rfl, List.find?_nil] at hf
      rw [hf] at hr
      refine ⟨rfl, ?_⟩
      show _ = Sh.enc r_order (orderE (j : Int) l)
      rw [← hr]; rfl
  · rw [List.length_map, hol] at hge
    have hkN : k = N := by omega
    subst hkN
    rw [Nat.sub_self, ordRun] at hr
    refine ⟨flat_ints o, rfl, ?_⟩
    show _ = Sh.enc r_order (orderE (k : Int) l)
    rw [← hr]; rfl
end Go.Pv
set_option linter.unusedSimpArgs false
set_option linter.unusedVariables false
set_option maxRecDepth 100000
namespace Go.Pv
open Go Go.Proofs
set_option maxRecDepth 100000
def A_strF (a0 : List ByteArray) : List T := [T.sl false (List.map Sy.str.enc a0)]
noncomputable def E_strF : Env := Env.of []
def H_strF : FuncId → Hint := fun _ => noHint
theorem Eok_strF : EnvOk Tryz.prog E_strF := EnvOk.nil _
def F_strF (a0 : List ByteArray) (R : T → Prop) : Prop :=
 R (T.fn 89 [] [T.ref [T.sl false (List.map Sy.str.enc a0)]])
theorem F_strF_eq (a0 : List ByteArray) (R : T → Prop) : sxTop stdC2 Tryz.prog E_strF H_strF 8 71 (A_strF a0) R = F_strF a0 R := by kernel_rfl
abbrev r_strF : Sh := [(false, Sy.any)]
theorem r_strF_call (y : Sh.den r_strF) (K : Sh.den r_strF → Prop) : callK r_strF (some (Sh.enc r_strF y)) K = K y := callK_enc rfl y K

def sp_strF (l : List ByteArray) : Option T := some (T.fn 89 [] [T.ref [T.sl false (List.map Sy.str.enc l)]])
theorem A_strF_inj (x y : List ByteArray) (h : A_strF x = A_strF y) : x = y := by
  unfold A_strF at h
  have h := (T.sl.injEq .. ▸ (List.cons.inj h).1)
  exact map_inj (Sy.enc_inj .str) h.2
noncomputable def g_strF : List T → Option (T) := gA (fun (x : List ByteArray) => A_strF x) sp_strF
theorem g_strF_at (a0 : List ByteArray) : g_strF (A_strF a0) = sp_strF a0 := gA_at (A := (fun (x : List ByteArray) => A_strF x)) A_strF_inj a0
theorem of_strF (h : ∀ (a0 : List ByteArray) (r : T), sp_strF a0 = some r → (∀ t ∈ A_strF a0, Bd t) → F_strF a0 (fun y => y = r)) : PureFn Tryz.prog 71 g_strF :=
  pureFn_A (E := E_strF) (Hs := H_strF) Eok_strF mixed' plain' (noHeap_of rfl) 8 ⟨_, _, Tryz.func71, rfl⟩ fun x r h1 h2 => by
    rw [F_strF_eq]
    exact h x r h1 h2

theorem fn_strF : PureFn Tryz.prog 71 g_strF := of_strF fun l r h hb => by
  cases h
  unfold F_strF
  rfl
theorem loop_one {S : Type} {F : (S → Prop) → S → Prop} {s : S} (h : ∀ X, F X s) : loopK S F s := fun X hX => hX s (h X)
theorem rowsK_zero {r : Sy} {a : r.den} {l : List r.den} (K : r.den → Prop) (hk : K a) : rowsK r (List.map r.enc (a :: l)) 0 K := ⟨a, by omega, rfl, hk⟩
end Go.Pv
set_option linter.unusedSimpArgs false
set_option linter.unusedVariables false
set_option maxRecDepth 100000
namespace Go.Pv
open Go Go.Proofs
theorem firstE_cases {α : Type} {f : α → Int} : ∀ {l : List α}, firstE f l = 0 ∨ ∃ a ∈ l, firstE f l = f a
  | [] => .inl rfl
  | a :: l => by
    unfold firstE
    by_cases h : f a = 0
    · rw [if_pos h]
      rcases firstE_cases (f := f) (l := l) with h | ⟨b, hb, h⟩
      · exact .inl h
      · exact .inr ⟨b, List.mem_cons_of_mem _ hb, h⟩
    · rw [if_neg h]; exact .inr ⟨a, List.mem_cons_self, rfl⟩
theorem ixK_opt {a : Option MP} {es : MP} {K : MP → Prop} (h : a = some es) (hk : K es) : optK (List (ByteArray × Int)) a K := ⟨es, h, hk⟩
/-! ### Nil slices deep within what is handed over -/
def T.deep : Nat → T → T
  | 0, t => t
  | n + 1, .sl _ rows => .sl false (rows.map fun r => r.map (T.deep n))
  | _ + 1, .v (.slice none 0 0) => .sl false []
  | _ + 1, .ne _ => .sl false []
  | n + 1, .agg cs => .agg (cs.map (T.deep n))
  | _ + 1, t => t
theorem RdT.deep {w : World} {own : Nat → Prop} : ∀ (n : Nat) {t : T} {v : Value}, RdT w own t v → RdT w own (T.deep n t) v := by
  intro n
  induction n with
  | zero => intro t v h; exact h
  | succ n ih =>
    intro t v h
    unfold T.deep
    split
    · rename_i e; cases e
    · rename_i n' f rows e
      cases e
      cases h with
      | slNil _ a cap hf hn => exact .slNil false a cap (by simp) hn
      | sl _ _ sz b o cap g h1 h2 h3 h4 h45 h5 h6 h7 h8 =>
        have e1 : (rows.map fun r => r.map (T.deep n)).length = rows.length := by simp
        rw [← e1]
        refine .sl false _ sz b o cap g (by rw [e1]; exact h1) (by rw [e1]; exact h2) (by simp) h4 h45 (fun r hr => ?_) h6 (fun i j hi hj => h7 i j (by rw [e1] at hi; exact hi) hj) (fun i j hi hj => ?_)
        · obtain ⟨r', hr', rfl⟩ := List.mem_map.1 hr
          rw [List.length_map]; exact h5 r' hr'
        · simp only [List.getElem_map]
          exact ih (h8 i j (by simpa using hi) (by simpa using hj))
    · rename_i e; cases e; cases h; exact .slNil false none 0 (by simp) (by simp)
    · rename_i e
      cases e
      cases h with
      | ne _ a cap hf => exact .slNil false (some a) cap (by simp) (by simp)
    · rename_i n' cs e
      cases e
      cases h with
      | agg _ vs h1 h2 => exact .agg _ vs (by simpa using h1) fun i hi => by simpa using ih (h2 i (by simpa using hi))
    · exact h
def gD {α : Type} (g : List T → Option α) (args : List T) : Option α := g (args.map (T.deep 4))
theorem PureFn.deep {P : Program} {f : FuncId} {g : List T → Option T} (h : PureFn P f g) : PureFn P f (gD g) := ⟨h.entry, fun w own args vs r hG ho ha hr => h.calls w own (args.map (T.deep 4)) vs r hG ho ⟨by simpa using ha.1, fun i hi => by
  have := (ha.2 i (by simpa using hi)).deep 4
  simpa using this⟩ hr⟩
end Go.Pv
