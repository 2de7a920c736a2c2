/-
  Chapter 17: the tree's seams and requirements.
  dag.Order, walked.
  Chapter 17: the tree's parts and packages, walked; Check, walked.
  Chapter 17: Check where the parts and packages are empty ones; StructureLong, walked.
  StructureLong: the law.
-/
import Derived.Test.YtjbepehejjmjoaaGreatDoorPto
import Derived.Test.YtjbepehejjmjoaaGreatDoorPqa
import Derived.Test.YtjbepehejjmjoaaGreatDoorPkj
import Derived.KernelRfl
set_option linter.unusedSimpArgs false
set_option linter.unusedVariables false
set_option maxRecDepth 100000
namespace Go.Pv
open Go Go.Proofs
def seamE (d : TDesign) (s : TSeam) : Int := if isId s.1 = false ∨ isId s.2.1 = false ∨ isId s.2.2.1 = false then 6 else if s.2.1 = s.2.2.1 then 2 else if ¬ s.2.2.2.1 = 1 ∧ ¬ s.2.2.2.1 = 2 then 10 else if s.2.2.2.2.1 < 1 ∨ 32768 < s.2.2.2.2.1 ∨ s.2.2.2.2.2 < 1 ∨ 3 < s.2.2.2.2.2 then 9 else if (partOf d s.2.1).isNone = true ∨ (partOf d s.2.2.1).isNone = true then 8 else 0
set_option maxRecDepth 100000
def A_cSeams (a0 : TDesign) (m1 : List (ByteArray × Int)) (m2 : List (ByteArray × Int)) (m3 : List (ByteArray × Int)) (m4 : List (ByteArray × Int)) : List T := [tRef a0 m1 m2 m3 m4]
noncomputable def E_cSeams : Env := Env.of [(67, .pure g_isId)]
def H_cSeams : FuncId → Hint := fun f => match f == 28 with | true => ⟨fun r => match r == 2 with | true => .inv [.val 17 false (.int .i64)] | false => .none, fun _ _ => none, fun _ => none⟩ | false => noHint
theorem Eok_cSeams : EnvOk Tryz.prog E_cSeams := EnvOk.cons (x := .pure g_isId) fn_isId (EnvOk.nil _)
def F_cSeams (a0 : TDesign) (m1 : List (ByteArray × Int)) (m2 : List (ByteArray × Int)) (m3 : List (ByteArray × Int)) (m4 : List (ByteArray × Int)) (R : T → Prop) : Prop :=
  loopK (Int × PUnit)
  (fun (X0 : Int × PUnit → Prop) (s1 : Int × PUnit) =>
    iteP (decide (s1.fst < (↑(List.map ySeam.enc a0.snd.snd.snd.fst).length : Int)))
      (rowsK ySeam (List.map ySeam.enc a0.snd.snd.snd.fst) s1.fst fun (y2 : TSeam) =>
        findK TypeDesc.string (Value.string y2.snd.fst) (mpD (encM m2)) false
          (Sy.int IntKind.i64)
          (findK TypeDesc.string (Value.string y2.snd.snd.fst) (mpD (encM m2)) false
            (Sy.int IntKind.i64)
            (callK [(false, Sy.bool)] (g_isId [T.v (Value.string y2.fst)])
              fun (y18 : Bool) =>
              iteP (!y18) (R (T.v (Value.int IntKind.i64 6)))
                (callK [(false, Sy.bool)] (g_isId [T.v (Value.string y2.snd.fst)])
                  fun (y19 : Bool) =>
                  iteP (!y19) (R (T.v (Value.int IntKind.i64 6)))
                    (callK [(false, Sy.bool)] (g_isId [T.v (Value.string y2.snd.snd.fst)])
                      fun (y20 : Bool) =>
                      iteP (!y20) (R (T.v (Value.int IntKind.i64 6)))
                        (iteP (decide (y2.snd.fst = y2.snd.snd.fst))
                          (R (T.v (Value.int IntKind.i64 2)))
                          (iteP (!decide (y2.snd.snd.snd.fst = 1))
                            (iteP (!decide (y2.snd.snd.snd.fst = 2))
                              (R (T.v (Value.int IntKind.i64 10)))
                              (iteP (decide (y2.snd.snd.snd.snd.fst < 1))
                                (R (T.v (Value.int IntKind.i64 9)))
                                (iteP (decide (32768 < y2.snd.snd.snd.snd.fst))
                                  (R (T.v (Value.int IntKind.i64 9)))
                                  (iteP (decide (y2.snd.snd.snd.snd.snd < 1))
                                    (R (T.v (Value.int IntKind.i64 9)))
                                    (iteP (decide (3 < y2.snd.snd.snd.snd.snd))
                                      (R (T.v (Value.int IntKind.i64 9)))
                                      (R (T.v (Value.int IntKind.i64 8))))))))
                            (iteP (decide (y2.snd.snd.snd.snd.fst < 1))
                              (R (T.v (Value.int IntKind.i64 9)))
                              (iteP (decide (32768 < y2.snd.snd.snd.snd.fst))
                                (R (T.v (Value.int IntKind.i64 9)))
                                (iteP (decide (y2.snd.snd.snd.snd.snd < 1))
                                  (R (T.v (Value.int IntKind.i64 9)))
                                  (iteP (decide (3 < y2.snd.snd.snd.snd.snd))
                                    (R (T.v (Value.int IntKind.i64 9)))
                                    (R (T.v (Value.int IntKind.i64 8))))))))))))
            fun (i13 : Nat) (y14 : Int) =>
            callK [(false, Sy.bool)] (g_isId [T.v (Value.string y2.fst)]) fun (y15 : Bool) =>
              iteP (!y15) (R (T.v (Value.int IntKind.i64 6)))
                (callK [(false, Sy.bool)] (g_isId [T.v (Value.string y2.snd.fst)])
                  fun (y16 : Bool) =>
                  iteP (!y16) (R (T.v (Value.int IntKind.i64 6)))
                    (callK [(false, Sy.bool)] (g_isId [T.v (Value.string y2.snd.snd.fst)])
                      fun (y17 : Bool) =>
                      iteP (!y17) (R (T.v (Value.int IntKind.i64 6)))
                        (iteP (decide (y2.snd.fst = y2.snd.snd.fst))
                          (R (T.v (Value.int IntKind.i64 2)))
                          (iteP (!decide (y2.snd.snd.snd.fst = 1))
                            (iteP (!decide (y2.snd.snd.snd.fst = 2))
                              (R (T.v (Value.int IntKind.i64 10)))
                              (iteP (decide (y2.snd.snd.snd.snd.fst < 1))
                                (R (T.v (Value.int IntKind.i64 9)))
                                (iteP (decide (32768 < y2.snd.snd.snd.snd.fst))
                                  (R (T.v (Value.int IntKind.i64 9)))
                                  (iteP (decide (y2.snd.snd.snd.snd.snd < 1))
                                    (R (T.v (Value.int IntKind.i64 9)))
                                    (iteP (decide (3 < y2.snd.snd.snd.snd.snd))
                                      (R (T.v (Value.int IntKind.i64 9)))
                                      (R (T.v (Value.int IntKind.i64 8))))))))
                            (iteP (decide (y2.snd.snd.snd.snd.fst < 1))
                              (R (T.v (Value.int IntKind.i64 9)))
                              (iteP (decide (32768 < y2.snd.snd.snd.snd.fst))
                                (R (T.v (Value.int IntKind.i64 9)))
                                (iteP (decide (y2.snd.snd.snd.snd.snd < 1))
                                  (R (T.v (Value.int IntKind.i64 9)))
                                  (iteP (decide (3 < y2.snd.snd.snd.snd.snd))
                                    (R (T.v (Value.int IntKind.i64 9)))
                                    (R (T.v (Value.int IntKind.i64 8))))))))))))
          fun (i3 : Nat) (y4 : Int) =>
          findK TypeDesc.string (Value.string y2.snd.snd.fst) (mpD (encM m2)) false
            (Sy.int IntKind.i64)
            (callK [(false, Sy.bool)] (g_isId [T.v (Value.string y2.fst)])
              fun (y10 : Bool) =>
              iteP (!y10) (R (T.v (Value.int IntKind.i64 6)))
                (callK [(false, Sy.bool)] (g_isId [T.v (Value.string y2.snd.fst)])
                  fun (y11 : Bool) =>
                  iteP (!y11) (R (T.v (Value.int IntKind.i64 6)))
                    (callK [(false, Sy.bool)] (g_isId [T.v (Value.string y2.snd.snd.fst)])
                      fun (y12 : Bool) =>
                      iteP (!y12) (R (T.v (Value.int IntKind.i64 6)))
                        (iteP (decide (y2.snd.fst = y2.snd.snd.fst))
                          (R (T.v (Value.int IntKind.i64 2)))
                          (iteP (!decide (y2.snd.snd.snd.fst = 1))
                            (iteP (!decide (y2.snd.snd.snd.fst = 2))
                              (R (T.v (Value.int IntKind.i64 10)))
                              (iteP (decide (y2.snd.snd.snd.snd.fst < 1))
                                (R (T.v (Value.int IntKind.i64 9)))
                                (iteP (decide (32768 < y2.snd.snd.snd.snd.fst))
                                  (R (T.v (Value.int IntKind.i64 9)))
                                  (iteP (decide (y2.snd.snd.snd.snd.snd < 1))
                                    (R (T.v (Value.int IntKind.i64 9)))
                                    (iteP (decide (3 < y2.snd.snd.snd.snd.snd))
                                      (R (T.v (Value.int IntKind.i64 9)))
                                      (R (T.v (Value.int IntKind.i64 8))))))))
                            (iteP (decide (y2.snd.snd.snd.snd.fst < 1))
                              (R (T.v (Value.int IntKind.i64 9)))
                              (iteP (decide (32768 < y2.snd.snd.snd.snd.fst))
                                (R (T.v (Value.int IntKind.i64 9)))
                                (iteP (decide (y2.snd.snd.snd.snd.snd < 1))
                                  (R (T.v (Value.int IntKind.i64 9)))
                                  (iteP (decide (3 < y2.snd.snd.snd.snd.snd))
                                    (R (T.v (Value.int IntKind.i64 9)))
                                    (R (T.v (Value.int IntKind.i64 8))))))))))))
            fun (i5 : Nat) (y6 : Int) =>
            callK [(false, Sy.bool)] (g_isId [T.v (Value.string y2.fst)]) fun (y7 : Bool) =>
              iteP (!y7) (R (T.v (Value.int IntKind.i64 6)))
                (callK [(false, Sy.bool)] (g_isId [T.v (Value.string y2.snd.fst)])
                  fun (y8 : Bool) =>
                  iteP (!y8) (R (T.v (Value.int IntKind.i64 6)))
                    (callK [(false, Sy.bool)] (g_isId [T.v (Value.string y2.snd.snd.fst)])
                      fun (y9 : Bool) =>
                      iteP (!y9) (R (T.v (Value.int IntKind.i64 6)))
                        (iteP (decide (y2.snd.fst = y2.snd.snd.fst))
                          (R (T.v (Value.int IntKind.i64 2)))
                          (iteP (!decide (y2.snd.snd.snd.fst = 1))
                            (iteP (!decide (y2.snd.snd.snd.fst = 2))
                              (R (T.v (Value.int IntKind.i64 10)))
                              (iteP (decide (y2.snd.snd.snd.snd.fst < 1))
                                (R (T.v (Value.int IntKind.i64 9)))
                                (iteP (decide (32768 < y2.snd.snd.snd.snd.fst))
                                  (R (T.v (Value.int IntKind.i64 9)))
                                  (iteP (decide (y2.snd.snd.snd.snd.snd < 1))
                                    (R (T.v (Value.int IntKind.i64 9)))
                                    (iteP (decide (3 < y2.snd.snd.snd.snd.snd))
                                      (R (T.v (Value.int IntKind.i64 9)))
                                      (X0 (IntKind.i64.wrap (s1.fst + 1), ())))))))
                            (iteP (decide (y2.snd.snd.snd.snd.fst < 1))
                              (R (T.v (Value.int IntKind.i64 9)))
                              (iteP (decide (32768 < y2.snd.snd.snd.snd.fst))
                                (R (T.v (Value.int IntKind.i64 9)))
                                (iteP (decide (y2.snd.snd.snd.snd.snd < 1))
                                  (R (T.v (Value.int IntKind.i64 9)))
                                  (iteP (decide (3 < y2.snd.snd.snd.snd.snd))
                                    (R (T.v (Value.int IntKind.i64 9)))
                                    (X0 (IntKind.i64.wrap (s1.fst + 1), ())))))))))))
      (R (T.v (Value.int IntKind.i64 0))))
  (0, ())
theorem F_cSeams_eq (a0 : TDesign) (m1 : List (ByteArray × Int)) (m2 : List (ByteArray × Int)) (m3 : List (ByteArray × Int)) (m4 : List (ByteArray × Int)) (R : T → Prop) : sxTop stdC2 Tryz.prog E_cSeams H_cSeams 8 28 (A_cSeams a0 m1 m2 m3 m4) R = F_cSeams a0 m1 m2 m3 m4 R := by kernel_rfl
abbrev r_cSeams : Sh := [(false, Sy.int IntKind.i64)]
theorem r_cSeams_call (y : Sh.den r_cSeams) (K : Sh.den r_cSeams → Prop) : callK r_cSeams (some (Sh.enc r_cSeams y)) K = K y := callK_enc rfl y K

theorem A_cSeams_inj (x y : TDesign × MP × MP × MP × MP) (h : A_cSeams x.1 x.2.1 x.2.2.1 x.2.2.2.1 x.2.2.2.2 = A_cSeams y.1 y.2.1 y.2.2.1 y.2.2.2.1 y.2.2.2.2) : x = y := tRef_inj (List.cons.inj h).1
def sp_cSeams (x : TDesign × MP × MP × MP × MP) : Option T := onlyT x (T.v (Value.int .i64 (firstE (seamE x.1) x.1.2.2.2.1)))
noncomputable def g_cSeams : List T → Option (T) := gA (fun (x : TDesign × (List (ByteArray × Int)) × (List (ByteArray × Int)) × (List (ByteArray × Int)) × List (ByteArray × Int)) => A_cSeams x.1 x.2.1 x.2.2.1 x.2.2.2.1 x.2.2.2.2) sp_cSeams
theorem g_cSeams_at (a0 : TDesign) (m1 : List (ByteArray × Int)) (m2 : List (ByteArray × Int)) (m3 : List (ByteArray × Int)) (m4 : List (ByteArray × Int)) : g_cSeams (A_cSeams a0 m1 m2 m3 m4) = sp_cSeams (a0, m1, m2, m3, m4) := gA_at (A := (fun (x : TDesign × (List (ByteArray × Int)) × (List (ByteArray × Int)) × (List (ByteArray × Int)) × List (ByteArray × Int)) => A_cSeams x.1 x.2.1 x.2.2.1 x.2.2.2.1 x.2.2.2.2)) A_cSeams_inj (a0, m1, m2, m3, m4)
theorem of_cSeams (h : ∀ (a0 : TDesign) (m1 : List (ByteArray × Int)) (m2 : List (ByteArray × Int)) (m3 : List (ByteArray × Int)) (m4 : List (ByteArray × Int)) (r : T), sp_cSeams (a0, m1, m2, m3, m4) = some r → (∀ t ∈ A_cSeams a0 m1 m2 m3 m4, Bd t) → F_cSeams a0 m1 m2 m3 m4 (fun y => y = r)) : PureFn Tryz.prog 28 g_cSeams :=
  pureFn_A (E := E_cSeams) (Hs := H_cSeams) Eok_cSeams mixed' plain' (noHeap_of rfl) 8 ⟨_, _, Tryz.func28, rfl⟩ fun x r h1 h2 => by
    rw [F_cSeams_eq]
    exact h x.1 x.2.1 x.2.2.1 x.2.2.2.1 x.2.2.2.2 r h1 h2

theorem fn_cSeams : PureFn Tryz.prog 28 g_cSeams := of_cSeams fun d m1 m2 m3 m4 r h hb => by
  obtain ⟨hx, hs, rfl⟩ := onlyT_of h
  simp only [Prod.mk.injEq, true_and] at hx
  obtain ⟨rfl, rfl, rfl, rfl⟩ := hx
  replace hs : SmallD d := hs
  clear h
  unfold F_cSeams
  refine first_loop (r := ySeam) (seamE d) hs.s (fun X s y hy hok hbad => ?_) fun h0 => ?_
  · have bad : ∀ {n : Int}, n ≠ 0 → seamE d y = n → T.v (Value.int IntKind.i64 n) = T.v (Value.int IntKind.i64 (firstE (seamE d) d.2.2.2.1)) := fun hn h => by
      rw [hbad (by rw [h]; exact hn), h]
    clear hbad hb
    repeat' first
      | refine ixK (fun hn => ?_) (fun i j hj hn => ?_)
      | rw [isId_call]
      | refine ifQ (fun h => ?_) (fun h => ?_)
      | refine ifP (fun h => ?_) (fun h => ?_)
      | refine ifNB (fun h => ?_) (fun h => ?_)
    all_goals first
      | (exfalso; omega)
      | (refine bad (by decide) ?_; clear bad hok; unfold seamE; simp [*, partOf, packOf]; done)
      | (refine hok ?_; clear bad hok; unfold seamE; simp [*, partOf, packOf]; done)
  · show _ = T.v (Value.int IntKind.i64 (firstE (seamE d) d.2.2.2.1))
    rw [h0]
set_option maxRecDepth 100000
def A_isBlk (a0 : TDesign) (m1 : List (ByteArray × Int)) (m2 : List (ByteArray × Int)) (m3 : List (ByteArray × Int)) (m4 : List (ByteArray × Int)) (a5 : ByteArray) : List T := [tRef a0 m1 m2 m3 m4, T.v (Value.string a5)]
noncomputable def E_isBlk : Env := Env.of []
def H_isBlk : FuncId → Hint := fun _ => noHint
theorem Eok_isBlk : EnvOk Tryz.prog E_isBlk := EnvOk.nil _
def F_isBlk (a0 : TDesign) (m1 : List (ByteArray × Int)) (m2 : List (ByteArray × Int)) (m3 : List (ByteArray × Int)) (m4 : List (ByteArray × Int)) (a5 : ByteArray) (R : T → Prop) : Prop :=
  findK TypeDesc.string (Value.string a5) (mpD (encM m1)) false (Sy.int IntKind.i64)
  (R (T.v (Value.bool false))) fun (i0 : Nat) (y1 : Int) =>
  rowsK yNode (List.map yNode.enc a0.snd.fst) y1 fun (y2 : TNode) =>
    R (T.v (Value.bool (decide (y2.snd.fst = 1))))
theorem F_isBlk_eq (a0 : TDesign) (m1 : List (ByteArray × Int)) (m2 : List (ByteArray × Int)) (m3 : List (ByteArray × Int)) (m4 : List (ByteArray × Int)) (a5 : ByteArray) (R : T → Prop) : sxTop stdC2 Tryz.prog E_isBlk H_isBlk 8 71 (A_isBlk a0 m1 m2 m3 m4 a5) R = F_isBlk a0 m1 m2 m3 m4 a5 R := by kernel_rfl
abbrev r_isBlk : Sh := [(false, Sy.bool)]
theorem r_isBlk_call (y : Sh.den r_isBlk) (K : Sh.den r_isBlk → Prop) : callK r_isBlk (some (Sh.enc r_isBlk y)) K = K y := callK_enc rfl y K

def isBlk (d : TDesign) (id : ByteArray) : Bool := match nodeOf d id with
  | some n => decide (n.2.1 = 1)
  | none => false
theorem A_isBlk_inj (x y : TDesign × MP × MP × MP × MP × ByteArray) (h : A_isBlk x.1 x.2.1 x.2.2.1 x.2.2.2.1 x.2.2.2.2.1 x.2.2.2.2.2 = A_isBlk y.1 y.2.1 y.2.2.1 y.2.2.2.1 y.2.2.2.2.1 y.2.2.2.2.2) : x = y := A_tclimb_inj x y h
def sp_isBlk (x : TDesign × MP × MP × MP × MP × ByteArray) : Option T := onlyT (x.1, x.2.1, x.2.2.1, x.2.2.2.1, x.2.2.2.2.1) (T.v (Value.bool (isBlk x.1 x.2.2.2.2.2)))
noncomputable def g_isBlk : List T → Option (T) := gA (fun (x : TDesign × (List (ByteArray × Int)) × (List (ByteArray × Int)) × (List (ByteArray × Int)) × (List (ByteArray × Int)) × ByteArray) => A_isBlk x.1 x.2.1 x.2.2.1 x.2.2.2.1 x.2.2.2.2.1 x.2.2.2.2.2) sp_isBlk
theorem g_isBlk_at (a0 : TDesign) (m1 : List (ByteArray × Int)) (m2 : List (ByteArray × Int)) (m3 : List (ByteArray × Int)) (m4 : List (ByteArray × Int)) (a5 : ByteArray) : g_isBlk (A_isBlk a0 m1 m2 m3 m4 a5) = sp_isBlk (a0, m1, m2, m3, m4, a5) := gA_at (A := (fun (x : TDesign × (List (ByteArray × Int)) × (List (ByteArray × Int)) × (List (ByteArray × Int)) × (List (ByteArray × Int)) × ByteArray) => A_isBlk x.1 x.2.1 x.2.2.1 x.2.2.2.1 x.2.2.2.2.1 x.2.2.2.2.2)) A_isBlk_inj (a0, m1, m2, m3, m4, a5)
theorem of_isBlk (h : ∀ (a0 : TDesign) (m1 : List (ByteArray × Int)) (m2 : List (ByteArray × Int)) (m3 : List (ByteArray × Int)) (m4 : List (ByteArray × Int)) (a5 : ByteArray) (r : T), sp_isBlk (a0, m1, m2, m3, m4, a5) = some r → (∀ t ∈ A_isBlk a0 m1 m2 m3 m4 a5, Bd t) → F_isBlk a0 m1 m2 m3 m4 a5 (fun y => y = r)) : PureFn Tryz.prog 71 g_isBlk :=
  pureFn_A (E := E_isBlk) (Hs := H_isBlk) Eok_isBlk mixed' plain' (noHeap_of rfl) 8 ⟨_, _, Tryz.func71, rfl⟩ fun x r h1 h2 => by
    rw [F_isBlk_eq]
    exact h x.1 x.2.1 x.2.2.1 x.2.2.2.1 x.2.2.2.2.1 x.2.2.2.2.2 r h1 h2

theorem fn_isBlk : PureFn Tryz.prog 71 g_isBlk := of_isBlk fun d m1 m2 m3 m4 id0 r h hb => by
  obtain ⟨hx, hs, rfl⟩ := onlyT_of h
  simp only [Prod.mk.injEq, true_and] at hx
  obtain ⟨rfl, rfl, rfl, rfl⟩ := hx
  replace hs : SmallD d := hs
  clear h
  unfold F_isBlk
  refine ixK (fun hn => ?_) fun i j hj hn => ?_
  · have hn : nodeOf d id0 = none := hn
    show _ = T.v (Value.bool (isBlk d id0))
    unfold isBlk; rw [hn]
  · have hn : nodeOf d id0 = some d.2.1[j] := hn
    rw [rowsK_at (r := yNode) hj]
    show _ = T.v (Value.bool (isBlk d id0))
    unfold isBlk; rw [hn]
theorem g_isBlk_ok {d : TDesign} (hs : SmallD d) (id : ByteArray) : g_isBlk (A_isBlk d (ixs (ids d.2.1)) (ixs (ids d.2.2.1)) (ixs (ids d.2.2.2.1)) (ixs (ids d.2.2.2.2.1)) id) = some (Sh.enc [(false, .bool)] (isBlk d id)) := by
  rw [g_isBlk_at]; exact onlyT_ok hs _
def needE (d : TDesign) (x : TNeed) : Int := if x.1 < 1 ∨ 3 < x.1 then 10 else if x.2.2 = x.2.1 then 2 else if isBlk d x.2.1 = false then 8 else if (x.1 = 1 ∧ ¬ x.2.2 = { data := #[] } ∧ isBlk d x.2.2 = false) ∨ (x.1 = 2 ∧ isBlk d x.2.2 = false) ∨ (x.1 = 3 ∧ (packOf d x.2.2).isNone = true) then 8 else 0
set_option maxRecDepth 100000
def A_cNeeds (a0 : TDesign) (m1 : List (ByteArray × Int)) (m2 : List (ByteArray × Int)) (m3 : List (ByteArray × Int)) (m4 : List (ByteArray × Int)) : List T := [tRef a0 m1 m2 m3 m4]
noncomputable def E_cNeeds : Env := Env.of [(71, .pure g_isBlk)]
def H_cNeeds : FuncId → Hint := fun f => match f == 30 with | true => ⟨fun r => match r == 2 with | true => .inv [.val 15 false (.int .i64)] | false => .none, fun _ _ => none, fun _ => none⟩ | false => noHint
theorem Eok_cNeeds : EnvOk Tryz.prog E_cNeeds := EnvOk.cons (x := .pure g_isBlk) fn_isBlk (EnvOk.nil _)
def F_cNeeds (a0 : TDesign) (m1 : List (ByteArray × Int)) (m2 : List (ByteArray × Int)) (m3 : List (ByteArray × Int)) (m4 : List (ByteArray × Int)) (R : T → Prop) : Prop :=
  loopK (Int × PUnit)
  (fun (X0 : Int × PUnit → Prop) (s1 : Int × PUnit) =>
    iteP (decide (s1.fst < (↑(List.map yNeed.enc a0.snd.snd.snd.snd.snd).length : Int)))
      (rowsK yNeed (List.map yNeed.enc a0.snd.snd.snd.snd.snd) s1.fst fun (y2 : TNeed) =>
        findK TypeDesc.string (Value.string y2.snd.snd) (mpD (encM m4)) false
          (Sy.int IntKind.i64)
          (iteP (decide (y2.fst < 1)) (R (T.v (Value.int IntKind.i64 10)))
            (iteP (decide (3 < y2.fst)) (R (T.v (Value.int IntKind.i64 10)))
              (iteP (decide (y2.snd.snd = y2.snd.fst)) (R (T.v (Value.int IntKind.i64 2)))
                (callK [(false, Sy.bool)]
                  (g_isBlk
                    [T.ref
                        [T.ref
                            [T.v (Value.string a0.fst), T.sl false (List.map yNode.enc a0.snd.fst),
                              T.sl false (List.map yPart.enc a0.snd.snd.fst),
                              T.sl false (List.map ySeam.enc a0.snd.snd.snd.fst),
                              T.sl false (List.map yPackage.enc a0.snd.snd.snd.snd.fst),
                              T.sl false (List.map yNeed.enc a0.snd.snd.snd.snd.snd)],
                          T.mp (encM m1), T.mp (encM m2), T.mp (encM m3),
                          T.mp (encM m4)],
                      T.v (Value.string y2.snd.fst)])
                  fun (y10 : Bool) =>
                  iteP (!y10) (R (T.v (Value.int IntKind.i64 8)))
                    (iteP (decide (y2.fst = 1))
                      (iteP (!decide (y2.snd.snd = { data := #[] }))
                        (callK [(false, Sy.bool)]
                          (g_isBlk
                            [T.ref
                                [T.ref
                                    [T.v (Value.string a0.fst),
                                      T.sl false (List.map yNode.enc a0.snd.fst),
                                      T.sl false (List.map yPart.enc a0.snd.snd.fst),
                                      T.sl false (List.map ySeam.enc a0.snd.snd.snd.fst),
                                      T.sl false (List.map yPackage.enc a0.snd.snd.snd.snd.fst),
                                      T.sl false (List.map yNeed.enc a0.snd.snd.snd.snd.snd)],
                                  T.mp (encM m1), T.mp (encM m2), T.mp (encM m3),
                                  T.mp (encM m4)],
                              T.v (Value.string y2.snd.snd)])
                          fun (y11 : Bool) =>
                          iteP (!y11) (R (T.v (Value.int IntKind.i64 8)))
                            (iteP (decide (y2.fst = 2))
                              (callK [(false, Sy.bool)]
                                (g_isBlk
                                  [T.ref
                                      [T.ref
                                          [T.v (Value.string a0.fst),
                                            T.sl false (List.map yNode.enc a0.snd.fst),
                                            T.sl false (List.map yPart.enc a0.snd.snd.fst),
                                            T.sl false (List.map ySeam.enc a0.snd.snd.snd.fst),
                                            T.sl false (List.map yPackage.enc a0.snd.snd.snd.snd.fst),
                                            T.sl false (List.map yNeed.enc a0.snd.snd.snd.snd.snd)],
                                        T.mp (encM m1), T.mp (encM m2),
                                        T.mp (encM m3), T.mp (encM m4)],
                                    T.v (Value.string y2.snd.snd)])
                                fun (y12 : Bool) =>
                                iteP (!y12) (R (T.v (Value.int IntKind.i64 8)))
                                  (iteP (decide (y2.fst = 3)) (R (T.v (Value.int IntKind.i64 8)))
                                    (X0 (IntKind.i64.wrap (s1.fst + 1), ()))))
                              (iteP (decide (y2.fst = 3)) (R (T.v (Value.int IntKind.i64 8)))
                                (X0 (IntKind.i64.wrap (s1.fst + 1), ())))))
                        (iteP (decide (y2.fst = 2))
                          (callK [(false, Sy.bool)]
                            (g_isBlk
                              [T.ref
                                  [T.ref
                                      [T.v (Value.string a0.fst),
                                        T.sl false (List.map yNode.enc a0.snd.fst),
                                        T.sl false (List.map yPart.enc a0.snd.snd.fst),
                                        T.sl false (List.map ySeam.enc a0.snd.snd.snd.fst),
                                        T.sl false (List.map yPackage.enc a0.snd.snd.snd.snd.fst),
                                        T.sl false (List.map yNeed.enc a0.snd.snd.snd.snd.snd)],
                                    T.mp (encM m1), T.mp (encM m2), T.mp (encM m3),
                                    T.mp (encM m4)],
                                T.v (Value.string y2.snd.snd)])
                            fun (y13 : Bool) =>
                            iteP (!y13) (R (T.v (Value.int IntKind.i64 8)))
                              (iteP (decide (y2.fst = 3)) (R (T.v (Value.int IntKind.i64 8)))
                                (X0 (IntKind.i64.wrap (s1.fst + 1), ()))))
                          (iteP (decide (y2.fst = 3)) (R (T.v (Value.int IntKind.i64 8)))
                            (X0 (IntKind.i64.wrap (s1.fst + 1), ())))))
                      (iteP (decide (y2.fst = 2))
                        (callK [(false, Sy.bool)]
                          (g_isBlk
                            [T.ref
                                [T.ref
                                    [T.v (Value.string a0.fst),
                                      T.sl false (List.map yNode.enc a0.snd.fst),
                                      T.sl false (List.map yPart.enc a0.snd.snd.fst),
                                      T.sl false (List.map ySeam.enc a0.snd.snd.snd.fst),
                                      T.sl false (List.map yPackage.enc a0.snd.snd.snd.snd.fst),
                                      T.sl false (List.map yNeed.enc a0.snd.snd.snd.snd.snd)],
                                  T.mp (encM m1), T.mp (encM m2), T.mp (encM m3),
                                  T.mp (encM m4)],
                              T.v (Value.string y2.snd.snd)])
                          fun (y14 : Bool) =>
                          iteP (!y14) (R (T.v (Value.int IntKind.i64 8)))
                            (iteP (decide (y2.fst = 3)) (R (T.v (Value.int IntKind.i64 8)))
                              (X0 (IntKind.i64.wrap (s1.fst + 1), ()))))
                        (iteP (decide (y2.fst = 3)) (R (T.v (Value.int IntKind.i64 8)))
                          (X0 (IntKind.i64.wrap (s1.fst + 1), ())))))))))
          fun (i3 : Nat) (y4 : Int) =>
          iteP (decide (y2.fst < 1)) (R (T.v (Value.int IntKind.i64 10)))
            (iteP (decide (3 < y2.fst)) (R (T.v (Value.int IntKind.i64 10)))
              (iteP (decide (y2.snd.snd = y2.snd.fst)) (R (T.v (Value.int IntKind.i64 2)))
                (callK [(false, Sy.bool)]
                  (g_isBlk
                    [T.ref
                        [T.ref
                            [T.v (Value.string a0.fst), T.sl false (List.map yNode.enc a0.snd.fst),
                              T.sl false (List.map yPart.enc a0.snd.snd.fst),
                              T.sl false (List.map ySeam.enc a0.snd.snd.snd.fst),
                              T.sl false (List.map yPackage.enc a0.snd.snd.snd.snd.fst),
                              T.sl false (List.map yNeed.enc a0.snd.snd.snd.snd.snd)],
                          T.mp (encM m1), T.mp (encM m2), T.mp (encM m3),
                          T.mp (encM m4)],
                      T.v (Value.string y2.snd.fst)])
                  fun (y5 : Bool) =>
                  iteP (!y5) (R (T.v (Value.int IntKind.i64 8)))
                    (iteP (decide (y2.fst = 1))
                      (iteP (!decide (y2.snd.snd = { data := #[] }))
                        (callK [(false, Sy.bool)]
                          (g_isBlk
                            [T.ref
                                [T.ref
                                    [T.v (Value.string a0.fst),
                                      T.sl false (List.map yNode.enc a0.snd.fst),
                                      T.sl false (List.map yPart.enc a0.snd.snd.fst),
                                      T.sl false (List.map ySeam.enc a0.snd.snd.snd.fst),
                                      T.sl false (List.map yPackage.enc a0.snd.snd.snd.snd.fst),
                                      T.sl false (List.map yNeed.enc a0.snd.snd.snd.snd.snd)],
                                  T.mp (encM m1), T.mp (encM m2), T.mp (encM m3),
                                  T.mp (encM m4)],
                              T.v (Value.string y2.snd.snd)])
                          fun (y6 : Bool) =>
                          iteP (!y6) (R (T.v (Value.int IntKind.i64 8)))
                            (iteP (decide (y2.fst = 2))
                              (callK [(false, Sy.bool)]
                                (g_isBlk
                                  [T.ref
                                      [T.ref
                                          [T.v (Value.string a0.fst),
                                            T.sl false (List.map yNode.enc a0.snd.fst),
                                            T.sl false (List.map yPart.enc a0.snd.snd.fst),
                                            T.sl false (List.map ySeam.enc a0.snd.snd.snd.fst),
                                            T.sl false (List.map yPackage.enc a0.snd.snd.snd.snd.fst),
                                            T.sl false (List.map yNeed.enc a0.snd.snd.snd.snd.snd)],
                                        T.mp (encM m1), T.mp (encM m2),
                                        T.mp (encM m3), T.mp (encM m4)],
                                    T.v (Value.string y2.snd.snd)])
                                fun (y7 : Bool) =>
                                iteP (!y7) (R (T.v (Value.int IntKind.i64 8)))
                                  (iteP (decide (y2.fst = 3)) (X0 (IntKind.i64.wrap (s1.fst + 1), ()))
                                    (X0 (IntKind.i64.wrap (s1.fst + 1), ()))))
                              (iteP (decide (y2.fst = 3)) (X0 (IntKind.i64.wrap (s1.fst + 1), ()))
                                (X0 (IntKind.i64.wrap (s1.fst + 1), ())))))
                        (iteP (decide (y2.fst = 2))
                          (callK [(false, Sy.bool)]
                            (g_isBlk
                              [T.ref
                                  [T.ref
                                      [T.v (Value.string a0.fst),
                                        T.sl false (List.map yNode.enc a0.snd.fst),
                                        T.sl false (List.map yPart.enc a0.snd.snd.fst),
                                        T.sl false (List.map ySeam.enc a0.snd.snd.snd.fst),
                                        T.sl false (List.map yPackage.enc a0.snd.snd.snd.snd.fst),
                                        T.sl false (List.map yNeed.enc a0.snd.snd.snd.snd.snd)],
                                    T.mp (encM m1), T.mp (encM m2), T.mp (encM m3),
                                    T.mp (encM m4)],
                                T.v (Value.string y2.snd.snd)])
                            fun (y8 : Bool) =>
                            iteP (!y8) (R (T.v (Value.int IntKind.i64 8)))
                              (iteP (decide (y2.fst = 3)) (X0 (IntKind.i64.wrap (s1.fst + 1), ()))
                                (X0 (IntKind.i64.wrap (s1.fst + 1), ()))))
                          (iteP (decide (y2.fst = 3)) (X0 (IntKind.i64.wrap (s1.fst + 1), ()))
                            (X0 (IntKind.i64.wrap (s1.fst + 1), ())))))
                      (iteP (decide (y2.fst = 2))
                        (callK [(false, Sy.bool)]
                          (g_isBlk
                            [T.ref
                                [T.ref
                                    [T.v (Value.string a0.fst),
                                      T.sl false (List.map yNode.enc a0.snd.fst),
                                      T.sl false (List.map yPart.enc a0.snd.snd.fst),
                                      T.sl false (List.map ySeam.enc a0.snd.snd.snd.fst),
                                      T.sl false (List.map yPackage.enc a0.snd.snd.snd.snd.fst),
                                      T.sl false (List.map yNeed.enc a0.snd.snd.snd.snd.snd)],
                                  T.mp (encM m1), T.mp (encM m2), T.mp (encM m3),
                                  T.mp (encM m4)],
                              T.v (Value.string y2.snd.snd)])
                          fun (y9 : Bool) =>
                          iteP (!y9) (R (T.v (Value.int IntKind.i64 8)))
                            (iteP (decide (y2.fst = 3)) (X0 (IntKind.i64.wrap (s1.fst + 1), ()))
                              (X0 (IntKind.i64.wrap (s1.fst + 1), ()))))
                        (iteP (decide (y2.fst = 3)) (X0 (IntKind.i64.wrap (s1.fst + 1), ()))
                          (X0 (IntKind.i64.wrap (s1.fst + 1), ())))))))))
      (R (T.v (Value.int IntKind.i64 0))))
  (0, ())
theorem F_cNeeds_eq (a0 : TDesign) (m1 : List (ByteArray × Int)) (m2 : List (ByteArray × Int)) (m3 : List (ByteArray × Int)) (m4 : List (ByteArray × Int)) (R : T → Prop) : sxTop stdC2 Tryz.prog E_cNeeds H_cNeeds 8 30 (A_cNeeds a0 m1 m2 m3 m4) R = F_cNeeds a0 m1 m2 m3 m4 R := by kernel_rfl
abbrev r_cNeeds : Sh := [(false, Sy.int IntKind.i64)]
theorem r_cNeeds_call (y : Sh.den r_cNeeds) (K : Sh.den r_cNeeds → Prop) : callK r_cNeeds (some (Sh.enc r_cNeeds y)) K = K y := callK_enc rfl y K

theorem A_cNeeds_inj (x y : TDesign × MP × MP × MP × MP) (h : A_cNeeds x.1 x.2.1 x.2.2.1 x.2.2.2.1 x.2.2.2.2 = A_cNeeds y.1 y.2.1 y.2.2.1 y.2.2.2.1 y.2.2.2.2) : x = y := tRef_inj (List.cons.inj h).1
def sp_cNeeds (x : TDesign × MP × MP × MP × MP) : Option T := onlyT x (T.v (Value.int .i64 (firstE (needE x.1) x.1.2.2.2.2.2)))
noncomputable def g_cNeeds : List T → Option (T) := gA (fun (x : TDesign × (List (ByteArray × Int)) × (List (ByteArray × Int)) × (List (ByteArray × Int)) × List (ByteArray × Int)) => A_cNeeds x.1 x.2.1 x.2.2.1 x.2.2.2.1 x.2.2.2.2) sp_cNeeds
theorem g_cNeeds_at (a0 : TDesign) (m1 : List (ByteArray × Int)) (m2 : List (ByteArray × Int)) (m3 : List (ByteArray × Int)) (m4 : List (ByteArray × Int)) : g_cNeeds (A_cNeeds a0 m1 m2 m3 m4) = sp_cNeeds (a0, m1, m2, m3, m4) := gA_at (A := (fun (x : TDesign × (List (ByteArray × Int)) × (List (ByteArray × Int)) × (List (ByteArray × Int)) × List (ByteArray × Int)) => A_cNeeds x.1 x.2.1 x.2.2.1 x.2.2.2.1 x.2.2.2.2)) A_cNeeds_inj (a0, m1, m2, m3, m4)
theorem of_cNeeds (h : ∀ (a0 : TDesign) (m1 : List (ByteArray × Int)) (m2 : List (ByteArray × Int)) (m3 : List (ByteArray × Int)) (m4 : List (ByteArray × Int)) (r : T), sp_cNeeds (a0, m1, m2, m3, m4) = some r → (∀ t ∈ A_cNeeds a0 m1 m2 m3 m4, Bd t) → F_cNeeds a0 m1 m2 m3 m4 (fun y => y = r)) : PureFn Tryz.prog 30 g_cNeeds :=
  pureFn_A (E := E_cNeeds) (Hs := H_cNeeds) Eok_cNeeds mixed' plain' (noHeap_of rfl) 8 ⟨_, _, Tryz.func30, rfl⟩ fun x r h1 h2 => by
    rw [F_cNeeds_eq]
    exact h x.1 x.2.1 x.2.2.1 x.2.2.2.1 x.2.2.2.2 r h1 h2

theorem fn_cNeeds : PureFn Tryz.prog 30 g_cNeeds := of_cNeeds fun d m1 m2 m3 m4 r h hb => by
  obtain ⟨hx, hs, rfl⟩ := onlyT_of h
  simp only [Prod.mk.injEq, true_and] at hx
  obtain ⟨rfl, rfl, rfl, rfl⟩ := hx
  replace hs : SmallD d := hs
  clear h
  unfold F_cNeeds
  refine first_loop (r := yNeed) (needE d) hs.r (fun X s y hy hok hbad => ?_) fun h0 => ?_
  · have bad : ∀ {n : Int}, n ≠ 0 → needE d y = n → T.v (Value.int IntKind.i64 n) = T.v (Value.int IntKind.i64 (firstE (needE d) d.2.2.2.2.2)) := fun hn h => by
      rw [hbad (by rw [h]; exact hn), h]
    clear hbad hb
    repeat' first
      | refine ixK (fun hn => ?_) (fun i j hj hn => ?_)
      | rw [isId_call]
      | refine callK_some (s := [(false, .bool)]) (g_isBlk_ok hs _) ?_
      | refine ifQ (fun h => ?_) (fun h => ?_)
      | refine ifP (fun h => ?_) (fun h => ?_)
      | refine ifNB (fun h => ?_) (fun h => ?_)
    all_goals first
      | (exfalso; omega)
      | (refine bad (by decide) ?_; clear bad hok; unfold needE; simp [*, partOf, packOf]; done)
      | (refine hok ?_; clear bad hok; unfold needE; simp [*, partOf, packOf]; done)
      | (refine hok ?_; clear bad hok hs hy; unfold needE; simp_all [partOf, packOf]; done)
  · show _ = T.v (Value.int IntKind.i64 (firstE (needE d) d.2.2.2.2.2))
    rw [h0]
end Go.Pv
set_option linter.unusedSimpArgs false
set_option linter.unusedVariables false
set_option maxRecDepth 100000
namespace Go.Pv
open Go Go.Proofs
abbrev ySE : Sy := .pr (.int .i64) (.int .i64)
set_option maxRecDepth 100000
noncomputable def E_ends : Env := Env.of []
def H_ends : FuncId → Hint := fun f => match f == 112 with | true => ⟨fun r => match r == 2 with | true => .inv [.val 9 false (.int .i64)] | false => .none, fun _ _ => none, fun _ => none⟩ | false => noHint
theorem Eok_ends : EnvOk Tryz.prog E_ends := EnvOk.nil _
def F_ends (a0 : Int) (a1 : List TPoint) (R : T → Prop) : Prop :=
  loopK (Int × PUnit)
  (fun (X0 : Int × PUnit → Prop) (s1 : Int × PUnit) =>
    iteP (decide (s1.fst < (↑(List.map yPoint.enc a1).length : Int)))
      (rowsK yPoint (List.map yPoint.enc a1) s1.fst fun (y2 : TPoint) =>
        iteP (decide (y2.fst < 0)) (R (T.v (Value.int IntKind.i64 9)))
          (iteP (decide (a0 ≤ y2.fst)) (R (T.v (Value.int IntKind.i64 9)))
            (iteP (decide (y2.snd < 0)) (R (T.v (Value.int IntKind.i64 9)))
              (iteP (decide (a0 ≤ y2.snd)) (R (T.v (Value.int IntKind.i64 9)))
                (iteP (decide (y2.fst = y2.snd)) (R (T.v (Value.int IntKind.i64 2)))
                  (X0 (IntKind.i64.wrap (s1.fst + 1), ())))))))
      (R (T.v (Value.int IntKind.i64 0))))
  (0, ())
theorem F_ends_eq (a0 : Int) (a1 : List TPoint) (R : T → Prop) : sxTop stdC2 Tryz.prog E_ends H_ends 8 112 [encV false (Sy.int IntKind.i64) a0, encV false yPoint.li a1] R = F_ends a0 a1 R := by kernel_rfl
abbrev s_ends : Sh := [(false, (Sy.int IntKind.i64)), (false, yPoint.li)]
abbrev r_ends : Sh := [(false, Sy.int IntKind.i64)]
theorem r_ends_call (y : Sh.den r_ends) (K : Sh.den r_ends → Prop) : callK r_ends (some (Sh.enc r_ends y)) K = K y := callK_enc rfl y K

def endE (n : Int) (x : TPoint) : Int := if x.1 < 0 ∨ n ≤ x.1 ∨ x.2 < 0 ∨ n ≤ x.2 then 9 else if x.1 = x.2 then 2 else 0
def sp_ends (x : Int × List TPoint) : Option T := onlyL x.2 (T.v (Value.int .i64 (firstE (endE x.1) x.2)))
noncomputable def g_ends : List T → Option (T) := gS s_ends sp_ends
theorem g_ends_at {a0 : Int} {a1 : List TPoint} : g_ends [T.v (Value.int IntKind.i64 a0), T.sl false (List.map yPoint.enc a1)] = sp_ends (a0, a1) := gS_enc (s := s_ends) rfl (a0, a1) rfl
theorem g_ends_op {u0 u1} : g_ends [T.v (Value.int IntKind.i64 u0), T.sl false (List.map yPoint.enc u1)] = sp_ends (u0, u1) := gS_enc (s := s_ends) rfl (u0, u1) rfl
theorem of_ends (h : ∀ (a0 : Int) (a1 : List TPoint) (r : T), sp_ends (a0, a1) = some r → BdSh s_ends (a0, a1) → F_ends a0 a1 (fun y => y = r)) : PureFn Tryz.prog 112 g_ends :=
  pureFn_S (E := E_ends) (Hs := H_ends) Eok_ends mixed' plain' (noHeap_of rfl) 8 ⟨_, _, Tryz.func112, rfl⟩ rfl fun x r h1 h2 => by
    obtain ⟨a0, a1⟩ := x
    rw [show Sh.encs s_ends (a0, a1) = [encV false (Sy.int IntKind.i64) a0, encV false yPoint.li a1] from rfl, F_ends_eq]
    exact h a0 a1 r h1 h2

theorem fn_ends : PureFn Tryz.prog 112 g_ends := of_ends fun n l r h hb => by
  obtain ⟨hl, rfl⟩ := onlyL_of h
  clear h
  unfold F_ends
  refine first_loop (r := yPoint) (endE n) hl (fun X s y hy hok hbad => ?_) fun h0 => ?_
  · have bad : ∀ {m : Int}, m ≠ 0 → endE n y = m → T.v (Value.int IntKind.i64 m) = T.v (Value.int IntKind.i64 (firstE (endE n) l)) := fun hn h => by
      rw [hbad (by rw [h]; exact hn), h]
    clear hbad hb
    repeat' first
      | refine ifQ (fun h => ?_) (fun h => ?_)
      | refine ifP (fun h => ?_) (fun h => ?_)
    all_goals first
      | (exfalso; omega)
      | (refine bad (by decide) ?_; clear bad hok; unfold endE; first | (rw [if_pos (by omega)]; done) | (rw [if_neg (by omega), if_pos (by omega)]; done))
      | (refine hok ?_; clear bad hok; unfold endE; rw [if_neg (by omega), if_neg (by omega)]; done)
  · show _ = T.v (Value.int IntKind.i64 (firstE (endE n) l))
    rw [h0]
set_option maxRecDepth 100000
noncomputable def E_order : Env := Env.of [(112, .pure g_ends)]
def H_order : FuncId → Hint := fun f => match f == 73 with | true => ⟨fun r => match r == 8 with | true => .inv [.arr 0 1 (.int .i64), .val 31 false (.int .i64)] | false => match r == 14 with | true => .inv [.arr 0 1 (.int .i64), .own 10 1 (.int .i64), .arr 2 1 .bool] | false => match r == 16 with | true => .inv [.val 52 false (.int .i64), .fix 0, .fix 2, .fix 3] | false => match r == 22 with | true => .inv [.arr 0 1 (.int .i64), .val 75 false (.int .i64)] | false => .none, fun _ _ => none, fun _ => none⟩ | false => noHint
theorem Eok_order : EnvOk Tryz.prog E_order := EnvOk.cons (x := .pure g_ends) fn_ends (EnvOk.nil _)
def F_order (a0 : Int) (a1 : List TPoint) (R : T → Prop) : Prop :=
  iteP (decide (a0 < 0))
  (reqK (T.v (Value.int IntKind.i64 9)).flat
    (R (T.tup [T.sl false [], T.v (Value.int IntKind.i64 9)])))
  (iteP (decide (256 < a0))
    (reqK (T.v (Value.int IntKind.i64 9)).flat
      (R (T.tup [T.sl false [], T.v (Value.int IntKind.i64 9)])))
    (callK [(false, Sy.int IntKind.i64)]
      (g_ends [T.v (Value.int IntKind.i64 a0), T.sl false (List.map yPoint.enc a1)])
      fun (y0 : Int) =>
      iteP (!decide (y0 = 0))
        (reqK (T.v (Value.int IntKind.i64 y0)).flat
          (R (T.tup [T.sl false [], T.v (Value.int IntKind.i64 y0)])))
        (reqK
          ((decide (a0 = a0) || decide (a0 = 0)) && decide (0 ≤ a0) && decide (a0 * (↑8 : Int) ≤ 140737488355328) &&
            decide (a0 ≤ 140737488355328))
          (decK (Sy.int IntKind.i64)
            (List.replicate (Int.toNat a0) [T.v (Value.int IntKind.i64 0)]) fun (y1 : List Int) =>
            loopK (List Int × Int × PUnit)
              (fun (X2 : List Int × Int × PUnit → Prop) (s3 : List Int × Int × PUnit) =>
                iteP (decide (s3.snd.fst < (↑(List.map yPoint.enc a1).length : Int)))
                  (rowsK yPoint (List.map yPoint.enc a1) s3.snd.fst fun (y4 : TPoint) =>
                    rowsK (Sy.int IntKind.i64) (List.map (Sy.int IntKind.i64).enc s3.fst) y4.snd
                      fun (y5 : Int) =>
                      partK (Sy.int IntKind.i64) (List.map (Sy.int IntKind.i64).enc s3.fst)
                        (Int.toNat y4.snd) 0 fun (y6 : Int) =>
                        rowsK (Sy.int IntKind.i64) (List.map (Sy.int IntKind.i64).enc s3.fst)
                          y4.snd fun (y7 : Int) =>
                          rowK (List.map (Sy.int IntKind.i64).enc s3.fst) (Int.toNat y4.snd)
                            fun (y8 : List T) =>
                            reqK (decide (1 ≤ y8.length))
                              (decK (Sy.int IntKind.i64)
                                ((List.map (Sy.int IntKind.i64).enc s3.fst).set (Int.toNat y4.snd)
                                  (splice y8 0
                                    [T.v (Value.int IntKind.i64 (IntKind.i64.wrap (y6 + 1)))]))
                                fun (y9 : List Int) => X2 (y9, IntKind.i64.wrap (s3.snd.fst + 1), ())))
                  (reqK
                    ((decide (0 = a0) || true) && decide (0 ≤ a0) && decide (a0 * (↑8 : Int) ≤ 140737488355328) &&
                      decide (a0 ≤ 140737488355328))
                    (reqK
                      ((decide (a0 = a0) || decide (a0 = 0)) && decide (0 ≤ a0) &&
                          decide (a0 * (↑1 : Int) ≤ 140737488355328) &&
                        decide (a0 ≤ 140737488355328))
                      (decK (Sy.int IntKind.i64) (List.map (Sy.int IntKind.i64).enc s3.fst)
                        fun (y10 : List Int) =>
                        decK (Sy.int IntKind.i64) [] fun (y11 : List Int) =>
                          decK Sy.bool (List.replicate (Int.toNat a0) [T.v (Value.bool false)])
                            fun (y12 : List Bool) =>
                            loopK (List Int × List Int × List Bool × PUnit)
                              (fun (X13 : List Int × List Int × List Bool × PUnit → Prop)
                                  (s14 : List Int × List Int × List Bool × PUnit) =>
                                iteP
                                  (decide
                                    ((↑(List.map (Sy.int IntKind.i64).enc s14.snd.fst).length : Int) < a0))
                                  (sameK
                                    (Box.arr false 1 (List.map (Sy.int IntKind.i64).enc s14.fst))
                                    (Box.arr false 1 (List.map (Sy.int IntKind.i64).enc s14.fst))
                                    (sameK (Box.arr false 1 (List.map Sy.bool.enc s14.snd.snd.fst))
                                      (Box.arr false 1 (List.map Sy.bool.enc s14.snd.snd.fst))
                                      (sameK
                                        (Box.arr false 1 (List.map (Sy.int IntKind.i64).enc s14.snd.fst))
                                        (Box.arr false 1 (List.map (Sy.int IntKind.i64).enc s14.snd.fst))
                                        (loopK (Int × PUnit × PUnit × PUnit × PUnit)
                                          (fun (X15 : Int × PUnit × PUnit × PUnit × PUnit → Prop)
                                              (s16 : Int × PUnit × PUnit × PUnit × PUnit) =>
                                            iteP (decide (s16.fst < a0))
                                              (rowsK Sy.bool (List.map Sy.bool.enc s14.snd.snd.fst)
                                                s16.fst fun (y17 : Bool) =>
                                                partK Sy.bool (List.map Sy.bool.enc s14.snd.snd.fst)
                                                  (Int.toNat s16.fst) 0 fun (y18 : Bool) =>
                                                  iteP y18
                                                    (sameK
                                                      (Box.arr false 1
                                                        (List.map (Sy.int IntKind.i64).enc s14.fst))
                                                      (Box.arr false 1
                                                        (List.map (Sy.int IntKind.i64).enc s14.fst))
                                                      (sameK
                                                        (Box.arr false 1
                                                          (List.map Sy.bool.enc s14.snd.snd.fst))
                                                        (Box.arr false 1
                                                          (List.map Sy.bool.enc s14.snd.snd.fst))
                                                        (sameK
                                                          (Box.arr false 1
                                                            (List.map (Sy.int IntKind.i64).enc s14.snd.fst))
                                                          (Box.arr false 1
                                                            (List.map (Sy.int IntKind.i64).enc s14.snd.fst))
                                                          (X15 (IntKind.i64.wrap (s16.fst + 1), (), (), (), ())))))
                                                    (rowsK (Sy.int IntKind.i64)
                                                      (List.map (Sy.int IntKind.i64).enc s14.fst) s16.fst
                                                      fun (y19 : Int) =>
                                                      partK (Sy.int IntKind.i64)
                                                        (List.map (Sy.int IntKind.i64).enc s14.fst)
                                                        (Int.toNat s16.fst) 0 fun (y20 : Int) =>
                                                        iteP (decide (0 < y20))
                                                          (sameK
                                                            (Box.arr false 1
                                                              (List.map (Sy.int IntKind.i64).enc s14.fst))
                                                            (Box.arr false 1
                                                              (List.map (Sy.int IntKind.i64).enc s14.fst))
                                                            (sameK
                                                              (Box.arr false 1
                                                                (List.map Sy.bool.enc s14.snd.snd.fst))
                                                              (Box.arr false 1
                                                                (List.map Sy.bool.enc s14.snd.snd.fst))
                                                              (sameK
                                                                (Box.arr false 1
                                                                  (List.map (Sy.int IntKind.i64).enc
                                                                    s14.snd.fst))
                                                                (Box.arr false 1
                                                                  (List.map (Sy.int IntKind.i64).enc
                                                                    s14.snd.fst))
                                                                (X15
                                                                  (IntKind.i64.wrap (s16.fst + 1), (), (), (),
                                                                    ())))))
                                                          (rowsK Sy.bool
                                                            (List.map Sy.bool.enc s14.snd.snd.fst) s16.fst
                                                            fun (y21 : Bool) =>
                                                            rowK (List.map Sy.bool.enc s14.snd.snd.fst)
                                                              (Int.toNat s16.fst) fun (y22 : List T) =>
                                                              reqK (decide (1 ≤ y22.length))
                                                                (reqK
                                                                  (decide
                                                                      (((List.map (Sy.int IntKind.i64).enc
                                                                                s14.snd.fst).length +
                                                                            1) *
                                                                          8 ≤
                                                                        140737488355328) &&
                                                                    decide
                                                                      ((List.map (Sy.int IntKind.i64).enc
                                                                              s14.snd.fst).length +
                                                                          1 ≤
                                                                        140737488355328))
                                                                  (decK (Sy.int IntKind.i64)
                                                                    (List.map (Sy.int IntKind.i64).enc s14.fst)
                                                                    fun (y23 : List Int) =>
                                                                    loopK (List Int × Int × PUnit)
                                                                      (fun (X24 : List Int × Int × PUnit → Prop)
                                                                          (s25 : List Int × Int × PUnit) =>
                                                                        iteP
                                                                          (decide
                                                                            (s25.snd.fst <
                                                                              (↑(List.map yPoint.enc a1).length :
                                                                                Int)))
                                                                          (rowsK yPoint
                                                                            (List.map yPoint.enc a1) s25.snd.fst
                                                                            fun (y26 : TPoint) =>
                                                                            iteP (decide (y26.fst = s16.fst))
                                                                              (rowsK (Sy.int IntKind.i64)
                                                                                (List.map
                                                                                  (Sy.int IntKind.i64).enc
                                                                                  s25.fst)
                                                                                y26.snd fun (y27 : Int) =>
                                                                                partK
                                                                                  (Sy.int IntKind.i64)
                                                                                  (List.map
                                                                                    (Sy.int IntKind.i64).enc
                                                                                    s25.fst)
                                                                                  (Int.toNat y26.snd) 0
                                                                                  fun (y28 : Int) =>
                                                                                  rowsK
                                                                                    (Sy.int IntKind.i64)
                                                                                    (List.map
                                                                                      (Sy.int IntKind.i64).enc
                                                                                      s25.fst)
                                                                                    y26.snd fun (y29 : Int) =>
                                                                                    rowK
                                                                                      (List.map
                                                                                        (Sy.int
                                                                                            IntKind.i64).enc
                                                                                        s25.fst)
                                                                                      (Int.toNat y26.snd)
                                                                                      fun (y30 : List T) =>
                                                                                      reqK
                                                                                        (decide (1 ≤ y30.length))
                                                                                        (decK
                                                                                          (Sy.int IntKind.i64)
                                                                                          ((List.map
                                                                                                (Sy.int
                                                                                                    IntKind.i64).enc
                                                                                                s25.fst).set
                                                                                            (Int.toNat y26.snd)
                                                                                            (splice y30 0
                                                                                              [T.v
                                                                                                  (Value.int
                                                                                                    IntKind.i64
                                                                                                    (IntKind.i64.wrap
                                                                                                      (y28 - 1)))]))
                                                                                          fun (y31 : List Int) =>
                                                                                          X24
                                                                                            (y31,
                                                                                              IntKind.i64.wrap
                                                                                                (s25.snd.fst + 1),
                                                                                              ())))
                                                                              (decK (Sy.int IntKind.i64)
                                                                                (List.map
                                                                                  (Sy.int IntKind.i64).enc
                                                                                  s25.fst)
                                                                                fun (y32 : List Int) =>
                                                                                X24
                                                                                  (y32,
                                                                                    IntKind.i64.wrap
                                                                                      (s25.snd.fst + 1),
                                                                                    ())))
                                                                          (decK (Sy.int IntKind.i64)
                                                                            (List.map (Sy.int IntKind.i64).enc
                                                                              s25.fst)
                                                                            fun (y33 : List Int) =>
                                                                            decK (Sy.int IntKind.i64)
                                                                              (List.map
                                                                                  (Sy.int IntKind.i64).enc
                                                                                  s14.snd.fst ++
                                                                                [[T.v
                                                                                      (Value.int IntKind.i64
                                                                                        s16.fst)]])
                                                                              fun (y34 : List Int) =>
                                                                              decK Sy.bool
                                                                                ((List.map Sy.bool.enc
                                                                                      s14.snd.snd.fst).set
                                                                                  (Int.toNat s16.fst)
                                                                                  (splice y22 0
                                                                                    [T.v (Value.bool true)]))
                                                                                fun (y35 : List Bool) =>
                                                                                X13 (y33, y34, y35, ())))
                                                                      (y23, 0, ()))))))
                                              (reqK (T.v (Value.int IntKind.i64 20)).flat
                                                (R
                                                  (T.tup
                                                    [T.sl false [],
                                                      T.v (Value.int IntKind.i64 20)]))))
                                          (0, (), (), (), ())))))
                                  (reqK
                                    ((List.map (Sy.int IntKind.i64).enc s14.snd.fst).all
                                      fun (r : List T) => r.all T.flat)
                                    (reqK (T.v (Value.int IntKind.i64 0)).flat
                                      (R
                                        (T.tup
                                          [T.sl false (List.map (Sy.int IntKind.i64).enc s14.snd.fst),
                                            T.v (Value.int IntKind.i64 0)])))))
                              (y10, y11, y12, ())))))
              (y1, 0, ())))))
theorem F_order_eq (a0 : Int) (a1 : List TPoint) (R : T → Prop) : sxTopN stdC2 Tryz.prog E_order H_order 8 73 [encV false (Sy.int IntKind.i64) a0, encV false yPoint.li a1] R = F_order a0 a1 R := by kernel_rfl
abbrev s_order : Sh := [(false, (Sy.int IntKind.i64)), (false, yPoint.li)]
abbrev r_order : Sh := [(false, (Sy.int IntKind.i64).li), (false, Sy.int IntKind.i64)]
theorem r_order_call (y : Sh.den r_order) (K : Sh.den r_order → Prop) : callK r_order (some (Sh.enc r_order y)) K = K y := callK_enc rfl y K

def sp_order (x : Int × List TPoint) : Option T := match decide (x.1 = 0), x.2 with
  | true, [] => some (Sh.enc r_order ([], 0))
  | _, _ => none
noncomputable def g_order : List T → Option (T) := gS s_order sp_order
theorem g_order_at {a0 : Int} {a1 : List TPoint} : g_order [T.v (Value.int IntKind.i64 a0), T.sl false (List.map yPoint.enc a1)] = sp_order (a0, a1) := gS_enc (s := s_order) rfl (a0, a1) rfl
theorem g_order_op {u0 u1} : g_order [T.v (Value.int IntKind.i64 u0), T.sl false (List.map yPoint.enc u1)] = sp_order (u0, u1) := gS_enc (s := s_order) rfl (u0, u1) rfl
theorem of_order (h : ∀ (a0 : Int) (a1 : List TPoint) (r : T), sp_order (a0, a1) = some r → BdSh s_order (a0, a1) → F_order a0 a1 (fun y => y = r)) : NewFn Tryz.prog 73 g_order :=
  newFn_S (E := E_order) (Hs := H_order) Eok_order mixed' plain' (noHeap_of rfl) 8 ⟨_, _, Tryz.func73, rfl⟩ rfl fun x r h1 h2 => by
    obtain ⟨a0, a1⟩ := x
    rw [show Sh.encs s_order (a0, a1) = [encV false (Sy.int IntKind.i64) a0, encV false yPoint.li a1] from rfl, F_order_eq]
    exact h a0 a1 r h1 h2

theorem fn_order : NewFn Tryz.prog 73 g_order := of_order fun n l r h hb => by
  unfold sp_order at h
  split at h
  · rename_i hn hl
    have hn : n = 0 := of_decide_eq_true hn
    have hl : l = [] := hl
    subst hn; subst hl
    cases h
    unfold F_order
    refine ifP (fun h => by omega) fun _ => ?_
    refine ifP (fun h => by omega) fun _ => ?_
    refine callK_some (s := [(false, .int .i64)]) (y := 0) (by rw [g_ends_at]; exact onlyL_ok _ (by decide)) ?_
    refine ifQ (fun h => absurd rfl h) fun _ => ?_
    refine ⟨rfl, ?_⟩
    refine ⟨[], rfl, ?_⟩
    intro X hX
    refine hX _ ?_
    dsimp only
    refine ifP (fun h => absurd h (by decide)) fun _ => ?_
    refine ⟨rfl, rfl, ?_⟩
    refine ⟨[], rfl, [], rfl, [], rfl, ?_⟩
    intro X hX
    refine hX _ ?_
    dsimp only
    refine ifP (fun h => absurd h (by decide)) fun _ => ?_
    repeat (first | rfl | refine ⟨rfl, ?_⟩)
  · cases h
end Go.Pv
set_option linter.unusedSimpArgs false
set_option linter.unusedVariables false
set_option maxRecDepth 100000
namespace Go.Pv
open Go Go.Proofs
set_option maxRecDepth 100000
def A_strF (a0 : List ByteArray) : List T := [T.sl false (List.map Sy.str.enc a0)]
noncomputable def E_strF : Env := Env.of []
def H_strF : FuncId → Hint := fun _ => noHint
theorem Eok_strF : EnvOk Tryz.prog E_strF := EnvOk.nil _
def F_strF (a0 : List ByteArray) (R : T → Prop) : Prop :=
  R (T.fn 111 [] [T.ref [T.sl false (List.map Sy.str.enc a0)]])
theorem F_strF_eq (a0 : List ByteArray) (R : T → Prop) : sxTop stdC2 Tryz.prog E_strF H_strF 8 72 (A_strF a0) R = F_strF a0 R := by kernel_rfl
abbrev r_strF : Sh := [(false, Sy.any)]
theorem r_strF_call (y : Sh.den r_strF) (K : Sh.den r_strF → Prop) : callK r_strF (some (Sh.enc r_strF y)) K = K y := callK_enc rfl y K

def sp_strF (l : List ByteArray) : Option T := some (T.fn 111 [] [T.ref [T.sl false (List.map Sy.str.enc l)]])
theorem A_strF_inj (x y : List ByteArray) (h : A_strF x = A_strF y) : x = y := by
  unfold A_strF at h
  have h := (T.sl.injEq .. ▸ (List.cons.inj h).1)
  exact map_inj (Sy.enc_inj .str) h.2
noncomputable def g_strF : List T → Option (T) := gA (fun (x : List ByteArray) => A_strF x) sp_strF
theorem g_strF_at (a0 : List ByteArray) : g_strF (A_strF a0) = sp_strF a0 := gA_at (A := (fun (x : List ByteArray) => A_strF x)) A_strF_inj a0
theorem of_strF (h : ∀ (a0 : List ByteArray) (r : T), sp_strF a0 = some r → (∀ t ∈ A_strF a0, Bd t) → F_strF a0 (fun y => y = r)) : PureFn Tryz.prog 72 g_strF :=
  pureFn_A (E := E_strF) (Hs := H_strF) Eok_strF mixed' plain' (noHeap_of rfl) 8 ⟨_, _, Tryz.func72, rfl⟩ fun x r h1 h2 => by
    rw [F_strF_eq]
    exact h x r h1 h2

theorem fn_strF : PureFn Tryz.prog 72 g_strF := of_strF fun l r h hb => by
  cases h
  unfold F_strF
  rfl
theorem entry_of {P : Program} {f : FuncId} (hn : plainNames P = true) (hex : ∃ fn c, P.funcs[f]? = some fn ∧ fn.body = some c) : ∃ fn, P.funcs[f]? = some fn ∧ (fn.name == "runtime.NumGoroutine") = false ∧ fn.body.isNone = false := by
  obtain ⟨fn, c, h1, h2⟩ := hex
  exact ⟨fn, h1, plain_name hn h1, by simp [h2]⟩
def g_n1 : List T → Option T := fun _ => none
theorem fn_n1 : PureFn Tryz.prog 105 g_n1 := PureFn.nil (entry_of plain' ⟨_, _, Tryz.func105, rfl⟩)
def g_n2 : List T → Option T := fun _ => none
theorem fn_n2 : PureFn Tryz.prog 104 g_n2 := PureFn.nil (entry_of plain' ⟨_, _, Tryz.func104, rfl⟩)
def g_n3 : List T → Option T := fun _ => none
theorem fn_n3 : PureFn Tryz.prog 103 g_n3 := PureFn.nil (entry_of plain' ⟨_, _, Tryz.func103, rfl⟩)
def g_n4 : List T → Option T := fun _ => none
theorem fn_n4 : PureFn Tryz.prog 107 g_n4 := PureFn.nil (entry_of plain' ⟨_, _, Tryz.func107, rfl⟩)
def g_pmass : List T → Option T := fun _ => none
theorem fn_pmass : PureFn Tryz.prog 70 g_pmass := PureFn.nil (entry_of plain' ⟨_, _, Tryz.func70, rfl⟩)
set_option maxRecDepth 100000
noncomputable def E_pcheck : Env := Env.of [(67, .pure g_isId), (105, .pure g_n1), (104, .pure g_n2), (103, .pure g_n3), (107, .pure g_n4)]
def H_pcheck : FuncId → Hint := fun _ => noHint
theorem Eok_pcheck : EnvOk Tryz.prog E_pcheck := EnvOk.cons (x := .pure g_isId) fn_isId (EnvOk.cons (x := .pure g_n1) fn_n1 (EnvOk.cons (x := .pure g_n2) fn_n2 (EnvOk.cons (x := .pure g_n3) fn_n3 (EnvOk.cons (x := .pure g_n4) fn_n4 (EnvOk.nil _)))))
def F_pcheck (a0 : TPart) (a1 : TMaterials) (R : T → Prop) : Prop :=
  callK [(false, Sy.bool)] (g_isId [T.v (Value.string a0.fst)]) fun (y0 : Bool) =>
  iteP (!y0) (R (T.v (Value.int IntKind.i64 6)))
    (callK [(false, Sy.bool)] (g_isId [T.v (Value.string a0.snd.snd.snd.fst)])
      fun (y1 : Bool) =>
      iteP (!y1) (R (T.v (Value.int IntKind.i64 6)))
        (iteP (decide (1 ≤ a0.snd.fst))
          (iteP (!decide (a0.snd.fst ≤ 1000)) (R (T.v (Value.int IntKind.i64 9)))
            (iteP (decide (a0.snd.snd.fst = 1))
              (callK [(false, Sy.bool)] (g_n3 [encV true yPart a0]) fun (y2 : Bool) =>
                iteP y2 (R (T.v (Value.int IntKind.i64 2)))
                  (callK [(false, Sy.bool)]
                    (g_n2 [encV true yPart a0, encV true yMaterials a1])
                    fun (y3 : Bool) =>
                    iteP (!y3) (R (T.v (Value.int IntKind.i64 23)))
                      (iteP (decide (a0.snd.snd.fst = 1))
                        (callK [(false, Sy.int IntKind.i64)]
                          (g_n1 [encV true yShape a0.snd.snd.snd.snd.snd.snd.fst]) fun (y4 : Int) =>
                          iteP (!decide (y4 = 0)) (R (T.v (Value.int IntKind.i64 y4)))
                            (callK [(false, Sy.bool)]
                              (g_n4 [encV true yPlace a0.snd.snd.snd.snd.snd.snd.snd.snd.snd.snd.snd])
                              fun (y5 : Bool) =>
                              iteP (!y5) (R (T.v (Value.int IntKind.i64 9)))
                                (R (T.v (Value.int IntKind.i64 0)))))
                        (iteP (decide (a0.snd.snd.fst = 2))
                          (iteP (decide (1 ≤ a0.snd.snd.snd.snd.snd.snd.snd.snd.fst))
                            (iteP (!decide (a0.snd.snd.snd.snd.snd.snd.snd.snd.fst ≤ 32768))
                              (R (T.v (Value.int IntKind.i64 9)))
                              (callK [(false, Sy.bool)]
                                (g_n4
                                  [encV true yPlace a0.snd.snd.snd.snd.snd.snd.snd.snd.snd.snd.snd])
                                fun (y6 : Bool) =>
                                iteP (!y6) (R (T.v (Value.int IntKind.i64 9)))
                                  (R (T.v (Value.int IntKind.i64 0)))))
                            (R (T.v (Value.int IntKind.i64 9))))
                          (iteP (decide (a0.snd.snd.fst = 3))
                            (iteP (decide (1 ≤ a0.snd.snd.snd.snd.snd.snd.snd.snd.fst))
                              (iteP (!decide (a0.snd.snd.snd.snd.snd.snd.snd.snd.fst ≤ 32768))
                                (R (T.v (Value.int IntKind.i64 9)))
                                (callK [(false, Sy.bool)]
                                  (g_n4
                                    [encV true yPlace a0.snd.snd.snd.snd.snd.snd.snd.snd.snd.snd.snd])
                                  fun (y7 : Bool) =>
                                  iteP (!y7) (R (T.v (Value.int IntKind.i64 9)))
                                    (R (T.v (Value.int IntKind.i64 0)))))
                              (R (T.v (Value.int IntKind.i64 9))))
                            (iteP (decide (a0.snd.snd.fst = 4))
                              (iteP (decide (1 ≤ a0.snd.snd.snd.snd.snd.snd.snd.snd.snd.fst))
                                (iteP (!decide (a0.snd.snd.snd.snd.snd.snd.snd.snd.snd.fst ≤ 1099511627776))
                                  (R (T.v (Value.int IntKind.i64 9)))
                                  (callK [(false, Sy.bool)]
                                    (g_n4
                                      [T.agg
                                          [T.v
                                              (Value.int IntKind.i64
                                                a0.snd.snd.snd.snd.snd.snd.snd.snd.snd.snd.fst.fst),
                                            T.v
                                              (Value.int IntKind.i64
                                                a0.snd.snd.snd.snd.snd.snd.snd.snd.snd.snd.fst.snd.fst),
                                            T.v
                                              (Value.int IntKind.i64
                                                a0.snd.snd.snd.snd.snd.snd.snd.snd.snd.snd.fst.snd.snd),
                                            T.v (Value.int IntKind.i64 0)]])
                                    fun (y8 : Bool) =>
                                    iteP (!y8) (R (T.v (Value.int IntKind.i64 9)))
                                      (callK [(false, Sy.bool)]
                                        (g_n4
                                          [encV true yPlace a0.snd.snd.snd.snd.snd.snd.snd.snd.snd.snd.snd])
                                        fun (y9 : Bool) =>
                                        iteP (!y9) (R (T.v (Value.int IntKind.i64 9)))
                                          (R (T.v (Value.int IntKind.i64 0))))))
                                (R (T.v (Value.int IntKind.i64 9))))
                              (callK [(false, Sy.bool)]
                                (g_n4
                                  [encV true yPlace a0.snd.snd.snd.snd.snd.snd.snd.snd.snd.snd.snd])
                                fun (y10 : Bool) =>
                                iteP (!y10) (R (T.v (Value.int IntKind.i64 9)))
                                  (R (T.v (Value.int IntKind.i64 0))))))))))
              (iteP (decide (a0.snd.snd.fst = 2))
                (callK [(false, Sy.bool)] (g_n3 [encV true yPart a0]) fun (y11 : Bool) =>
                  iteP y11 (R (T.v (Value.int IntKind.i64 2)))
                    (callK [(false, Sy.bool)]
                      (g_n2 [encV true yPart a0, encV true yMaterials a1])
                      fun (y12 : Bool) =>
                      iteP (!y12) (R (T.v (Value.int IntKind.i64 23)))
                        (iteP (decide (a0.snd.snd.fst = 1))
                          (callK [(false, Sy.int IntKind.i64)]
                            (g_n1 [encV true yShape a0.snd.snd.snd.snd.snd.snd.fst])
                            fun (y13 : Int) =>
                            iteP (!decide (y13 = 0)) (R (T.v (Value.int IntKind.i64 y13)))
                              (callK [(false, Sy.bool)]
                                (g_n4
                                  [encV true yPlace a0.snd.snd.snd.snd.snd.snd.snd.snd.snd.snd.snd])
                                fun (y14 : Bool) =>
                                iteP (!y14) (R (T.v (Value.int IntKind.i64 9)))
                                  (R (T.v (Value.int IntKind.i64 0)))))
                          (iteP (decide (a0.snd.snd.fst = 2))
                            (iteP (decide (1 ≤ a0.snd.snd.snd.snd.snd.snd.snd.snd.fst))
                              (iteP (!decide (a0.snd.snd.snd.snd.snd.snd.snd.snd.fst ≤ 32768))
                                (R (T.v (Value.int IntKind.i64 9)))
                                (callK [(false, Sy.bool)]
                                  (g_n4
                                    [encV true yPlace a0.snd.snd.snd.snd.snd.snd.snd.snd.snd.snd.snd])
                                  fun (y15 : Bool) =>
                                  iteP (!y15) (R (T.v (Value.int IntKind.i64 9)))
                                    (R (T.v (Value.int IntKind.i64 0)))))
                              (R (T.v (Value.int IntKind.i64 9))))
                            (iteP (decide (a0.snd.snd.fst = 3))
                              (iteP (decide (1 ≤ a0.snd.snd.snd.snd.snd.snd.snd.snd.fst))
                                (iteP (!decide (a0.snd.snd.snd.snd.snd.snd.snd.snd.fst ≤ 32768))
                                  (R (T.v (Value.int IntKind.i64 9)))
                                  (callK [(false, Sy.bool)]
                                    (g_n4
                                      [encV true yPlace a0.snd.snd.snd.snd.snd.snd.snd.snd.snd.snd.snd])
                                    fun (y16 : Bool) =>
                                    iteP (!y16) (R (T.v (Value.int IntKind.i64 9)))
                                      (R (T.v (Value.int IntKind.i64 0)))))
                                (R (T.v (Value.int IntKind.i64 9))))
                              (iteP (decide (a0.snd.snd.fst = 4))
                                (iteP (decide (1 ≤ a0.snd.snd.snd.snd.snd.snd.snd.snd.snd.fst))
                                  (iteP (!decide (a0.snd.snd.snd.snd.snd.snd.snd.snd.snd.fst ≤ 1099511627776))
                                    (R (T.v (Value.int IntKind.i64 9)))
                                    (callK [(false, Sy.bool)]
                                      (g_n4
                                        [T.agg
                                            [T.v
                                                (Value.int IntKind.i64
                                                  a0.snd.snd.snd.snd.snd.snd.snd.snd.snd.snd.fst.fst),
                                              T.v
                                                (Value.int IntKind.i64
                                                  a0.snd.snd.snd.snd.snd.snd.snd.snd.snd.snd.fst.snd.fst),
                                              T.v
                                                (Value.int IntKind.i64
                                                  a0.snd.snd.snd.snd.snd.snd.snd.snd.snd.snd.fst.snd.snd),
                                              T.v (Value.int IntKind.i64 0)]])
                                      fun (y17 : Bool) =>
                                      iteP (!y17) (R (T.v (Value.int IntKind.i64 9)))
                                        (callK [(false, Sy.bool)]
                                          (g_n4
                                            [encV true yPlace
                                                a0.snd.snd.snd.snd.snd.snd.snd.snd.snd.snd.snd])
                                          fun (y18 : Bool) =>
                                          iteP (!y18) (R (T.v (Value.int IntKind.i64 9)))
                                            (R (T.v (Value.int IntKind.i64 0))))))
                                  (R (T.v (Value.int IntKind.i64 9))))
                                (callK [(false, Sy.bool)]
                                  (g_n4
                                    [encV true yPlace a0.snd.snd.snd.snd.snd.snd.snd.snd.snd.snd.snd])
                                  fun (y19 : Bool) =>
                                  iteP (!y19) (R (T.v (Value.int IntKind.i64 9)))
                                    (R (T.v (Value.int IntKind.i64 0))))))))))
                (iteP (decide (a0.snd.snd.fst = 3))
                  (callK [(false, Sy.bool)] (g_n3 [encV true yPart a0])
                    fun (y20 : Bool) =>
                    iteP y20 (R (T.v (Value.int IntKind.i64 2)))
                      (callK [(false, Sy.bool)]
                        (g_n2 [encV true yPart a0, encV true yMaterials a1])
                        fun (y21 : Bool) =>
                        iteP (!y21) (R (T.v (Value.int IntKind.i64 23)))
                          (iteP (decide (a0.snd.snd.fst = 1))
                            (callK [(false, Sy.int IntKind.i64)]
                              (g_n1 [encV true yShape a0.snd.snd.snd.snd.snd.snd.fst])
                              fun (y22 : Int) =>
                              iteP (!decide (y22 = 0)) (R (T.v (Value.int IntKind.i64 y22)))
                                (callK [(false, Sy.bool)]
                                  (g_n4
                                    [encV true yPlace a0.snd.snd.snd.snd.snd.snd.snd.snd.snd.snd.snd])
                                  fun (y23 : Bool) =>
                                  iteP (!y23) (R (T.v (Value.int IntKind.i64 9)))
                                    (R (T.v (Value.int IntKind.i64 0)))))
                            (iteP (decide (a0.snd.snd.fst = 2))
                              (iteP (decide (1 ≤ a0.snd.snd.snd.snd.snd.snd.snd.snd.fst))
                                (iteP (!decide (a0.snd.snd.snd.snd.snd.snd.snd.snd.fst ≤ 32768))
                                  (R (T.v (Value.int IntKind.i64 9)))
                                  (callK [(false, Sy.bool)]
                                    (g_n4
                                      [encV true yPlace a0.snd.snd.snd.snd.snd.snd.snd.snd.snd.snd.snd])
                                    fun (y24 : Bool) =>
                                    iteP (!y24) (R (T.v (Value.int IntKind.i64 9)))
                                      (R (T.v (Value.int IntKind.i64 0)))))
                                (R (T.v (Value.int IntKind.i64 9))))
                              (iteP (decide (a0.snd.snd.fst = 3))
                                (iteP (decide (1 ≤ a0.snd.snd.snd.snd.snd.snd.snd.snd.fst))
                                  (iteP (!decide (a0.snd.snd.snd.snd.snd.snd.snd.snd.fst ≤ 32768))
                                    (R (T.v (Value.int IntKind.i64 9)))
                                    (callK [(false, Sy.bool)]
                                      (g_n4
                                        [encV true yPlace a0.snd.snd.snd.snd.snd.snd.snd.snd.snd.snd.snd])
                                      fun (y25 : Bool) =>
                                      iteP (!y25) (R (T.v (Value.int IntKind.i64 9)))
                                        (R (T.v (Value.int IntKind.i64 0)))))
                                  (R (T.v (Value.int IntKind.i64 9))))
                                (iteP (decide (a0.snd.snd.fst = 4))
                                  (iteP (decide (1 ≤ a0.snd.snd.snd.snd.snd.snd.snd.snd.snd.fst))
                                    (iteP (!decide (a0.snd.snd.snd.snd.snd.snd.snd.snd.snd.fst ≤ 1099511627776))
                                      (R (T.v (Value.int IntKind.i64 9)))
                                      (callK [(false, Sy.bool)]
                                        (g_n4
                                          [T.agg
                                              [T.v
                                                  (Value.int IntKind.i64
                                                    a0.snd.snd.snd.snd.snd.snd.snd.snd.snd.snd.fst.fst),
                                                T.v
                                                  (Value.int IntKind.i64
                                                    a0.snd.snd.snd.snd.snd.snd.snd.snd.snd.snd.fst.snd.fst),
                                                T.v
                                                  (Value.int IntKind.i64
                                                    a0.snd.snd.snd.snd.snd.snd.snd.snd.snd.snd.fst.snd.snd),
                                                T.v (Value.int IntKind.i64 0)]])
                                        fun (y26 : Bool) =>
                                        iteP (!y26) (R (T.v (Value.int IntKind.i64 9)))
                                          (callK [(false, Sy.bool)]
                                            (g_n4
                                              [encV true yPlace
                                                  a0.snd.snd.snd.snd.snd.snd.snd.snd.snd.snd.snd])
                                            fun (y27 : Bool) =>
                                            iteP (!y27) (R (T.v (Value.int IntKind.i64 9)))
                                              (R (T.v (Value.int IntKind.i64 0))))))
                                    (R (T.v (Value.int IntKind.i64 9))))
                                  (callK [(false, Sy.bool)]
                                    (g_n4
                                      [encV true yPlace a0.snd.snd.snd.snd.snd.snd.snd.snd.snd.snd.snd])
                                    fun (y28 : Bool) =>
                                    iteP (!y28) (R (T.v (Value.int IntKind.i64 9)))
                                      (R (T.v (Value.int IntKind.i64 0))))))))))
                  (iteP (decide (a0.snd.snd.fst = 4))
                    (callK [(false, Sy.bool)] (g_n3 [encV true yPart a0])
                      fun (y29 : Bool) =>
                      iteP y29 (R (T.v (Value.int IntKind.i64 2)))
                        (callK [(false, Sy.bool)]
                          (g_n2 [encV true yPart a0, encV true yMaterials a1])
                          fun (y30 : Bool) =>
                          iteP (!y30) (R (T.v (Value.int IntKind.i64 23)))
                            (iteP (decide (a0.snd.snd.fst = 1))
                              (callK [(false, Sy.int IntKind.i64)]
                                (g_n1 [encV true yShape a0.snd.snd.snd.snd.snd.snd.fst])
                                fun (y31 : Int) =>
                                iteP (!decide (y31 = 0)) (R (T.v (Value.int IntKind.i64 y31)))
                                  (callK [(false, Sy.bool)]
                                    (g_n4
                                      [encV true yPlace a0.snd.snd.snd.snd.snd.snd.snd.snd.snd.snd.snd])
                                    fun (y32 : Bool) =>
                                    iteP (!y32) (R (T.v (Value.int IntKind.i64 9)))
                                      (R (T.v (Value.int IntKind.i64 0)))))
                              (iteP (decide (a0.snd.snd.fst = 2))
                                (iteP (decide (1 ≤ a0.snd.snd.snd.snd.snd.snd.snd.snd.fst))
                                  (iteP (!decide (a0.snd.snd.snd.snd.snd.snd.snd.snd.fst ≤ 32768))
                                    (R (T.v (Value.int IntKind.i64 9)))
                                    (callK [(false, Sy.bool)]
                                      (g_n4
                                        [encV true yPlace a0.snd.snd.snd.snd.snd.snd.snd.snd.snd.snd.snd])
                                      fun (y33 : Bool) =>
                                      iteP (!y33) (R (T.v (Value.int IntKind.i64 9)))
                                        (R (T.v (Value.int IntKind.i64 0)))))
                                  (R (T.v (Value.int IntKind.i64 9))))
                                (iteP (decide (a0.snd.snd.fst = 3))
                                  (iteP (decide (1 ≤ a0.snd.snd.snd.snd.snd.snd.snd.snd.fst))
                                    (iteP (!decide (a0.snd.snd.snd.snd.snd.snd.snd.snd.fst ≤ 32768))
                                      (R (T.v (Value.int IntKind.i64 9)))
                                      (callK [(false, Sy.bool)]
                                        (g_n4
                                          [encV true yPlace a0.snd.snd.snd.snd.snd.snd.snd.snd.snd.snd.snd])
                                        fun (y34 : Bool) =>
                                        iteP (!y34) (R (T.v (Value.int IntKind.i64 9)))
                                          (R (T.v (Value.int IntKind.i64 0)))))
                                    (R (T.v (Value.int IntKind.i64 9))))
                                  (iteP (decide (a0.snd.snd.fst = 4))
                                    (iteP (decide (1 ≤ a0.snd.snd.snd.snd.snd.snd.snd.snd.snd.fst))
                                      (iteP (!decide (a0.snd.snd.snd.snd.snd.snd.snd.snd.snd.fst ≤ 1099511627776))
                                        (R (T.v (Value.int IntKind.i64 9)))
                                        (callK [(false, Sy.bool)]
                                          (g_n4
                                            [T.agg
                                                [T.v
                                                    (Value.int IntKind.i64
                                                      a0.snd.snd.snd.snd.snd.snd.snd.snd.snd.snd.fst.fst),
                                                  T.v
                                                    (Value.int IntKind.i64
                                                      a0.snd.snd.snd.snd.snd.snd.snd.snd.snd.snd.fst.snd.fst),
                                                  T.v
                                                    (Value.int IntKind.i64
                                                      a0.snd.snd.snd.snd.snd.snd.snd.snd.snd.snd.fst.snd.snd),
                                                  T.v (Value.int IntKind.i64 0)]])
                                          fun (y35 : Bool) =>
                                          iteP (!y35) (R (T.v (Value.int IntKind.i64 9)))
                                            (callK [(false, Sy.bool)]
                                              (g_n4
                                                [encV true yPlace
                                                    a0.snd.snd.snd.snd.snd.snd.snd.snd.snd.snd.snd])
                                              fun (y36 : Bool) =>
                                              iteP (!y36) (R (T.v (Value.int IntKind.i64 9)))
                                                (R (T.v (Value.int IntKind.i64 0))))))
                                      (R (T.v (Value.int IntKind.i64 9))))
                                    (callK [(false, Sy.bool)]
                                      (g_n4
                                        [encV true yPlace a0.snd.snd.snd.snd.snd.snd.snd.snd.snd.snd.snd])
                                      fun (y37 : Bool) =>
                                      iteP (!y37) (R (T.v (Value.int IntKind.i64 9)))
                                        (R (T.v (Value.int IntKind.i64 0))))))))))
                    (R (T.v (Value.int IntKind.i64 10))))))))
          (R (T.v (Value.int IntKind.i64 9)))))
theorem F_pcheck_eq (a0 : TPart) (a1 : TMaterials) (R : T → Prop) : sxTop stdC2 Tryz.prog E_pcheck H_pcheck 8 69 [encV true yPart a0, encV true yMaterials a1] R = F_pcheck a0 a1 R := by kernel_rfl
abbrev s_pcheck : Sh := [(true, yPart), (true, yMaterials)]
abbrev r_pcheck : Sh := [(false, Sy.int IntKind.i64)]
theorem r_pcheck_call (y : Sh.den r_pcheck) (K : Sh.den r_pcheck → Prop) : callK r_pcheck (some (Sh.enc r_pcheck y)) K = K y := callK_enc rfl y K

def sp_pcheck (x : TPart × TMaterials) : Option T := match isId x.1.1 with
  | false => some (T.v (Value.int .i64 6))
  | true => none
noncomputable def g_pcheck : List T → Option (T) := gS s_pcheck sp_pcheck
theorem g_pcheck_at {a0 : TPart} {a1 : TMaterials} : g_pcheck [encV true yPart a0, encV true yMaterials a1] = sp_pcheck (a0, a1) := gS_enc (s := s_pcheck) rfl (a0, a1) rfl
theorem g_pcheck_op {u0 u1 u2 u3 u4 u5 u6 u7 u8 u9 u10 u11 u12 u13 u14 u15 u16 u17 u18 u19} : g_pcheck [T.agg
    [T.v (Value.string u0), T.v (Value.int IntKind.i64 u1),
      T.v (Value.int IntKind.i64 u2), T.v (Value.string u3),
      T.v (Value.string u4),
      T.v (Value.int IntKind.i64 u5),
      T.sl false (List.map yPoint.enc u6),
      T.sl false (List.map yPoint.li.enc u7),
      T.v (Value.string u8),
      T.v (Value.int IntKind.i64 u9),
      T.v (Value.int IntKind.i64 u10),
      T.v (Value.int IntKind.i64 u11),
      T.v (Value.int IntKind.i64 u12),
      T.v (Value.int IntKind.i64 u13),
      T.v (Value.int IntKind.i64 u14),
      T.v (Value.int IntKind.i64 u15),
      T.v (Value.int IntKind.i64 u16),
      T.v (Value.int IntKind.i64 u17)],
  T.agg [T.sl false (List.map yGrade.enc u18), T.sl false (List.map ySection.enc u19)]] = sp_pcheck ((u0, (u1, (u2, (u3, (u4, (u5, ((u6, u7), (u8, (u9, (u10, ((u11, (u12, u13)), ((u14, (u15, u16)), u17)))))))))))), (u18, u19)) := gS_enc (s := s_pcheck) rfl ((u0, (u1, (u2, (u3, (u4, (u5, ((u6, u7), (u8, (u9, (u10, ((u11, (u12, u13)), ((u14, (u15, u16)), u17)))))))))))), (u18, u19)) rfl
theorem of_pcheck (h : ∀ (a0 : TPart) (a1 : TMaterials) (r : T), sp_pcheck (a0, a1) = some r → BdSh s_pcheck (a0, a1) → F_pcheck a0 a1 (fun y => y = r)) : PureFn Tryz.prog 69 g_pcheck :=
  pureFn_S (E := E_pcheck) (Hs := H_pcheck) Eok_pcheck mixed' plain' (noHeap_of rfl) 8 ⟨_, _, Tryz.func69, rfl⟩ rfl fun x r h1 h2 => by
    obtain ⟨a0, a1⟩ := x
    rw [show Sh.encs s_pcheck (a0, a1) = [encV true yPart a0, encV true yMaterials a1] from rfl, F_pcheck_eq]
    exact h a0 a1 r h1 h2

theorem fn_pcheck : PureFn Tryz.prog 69 g_pcheck := of_pcheck fun p m r h hb => by
  unfold sp_pcheck at h
  split at h
  · rename_i hid
    cases h
    have hid : isId p.1 = false := hid
    unfold F_pcheck
    rw [isId_call]
    rw [hid]
    rfl
  · cases h
set_option maxRecDepth 100000
def A_cParts (a0 : TDesign) (m1 : List (ByteArray × Int)) (m2 : List (ByteArray × Int)) (m3 : List (ByteArray × Int)) (m4 : List (ByteArray × Int)) (a5 : TMaterials) : List T := [tRef a0 m1 m2 m3 m4, T.agg (yMaterials.enc a5)]
noncomputable def E_cParts : Env := Env.of [(69, .pure g_pcheck), (70, .pure g_pmass)]
def H_cParts : FuncId → Hint := fun f => match f == 27 with | true => ⟨fun r => match r == 2 with | true => .inv [.val 23 false (.int .i64)] | false => match r == 13 with | true => .inv [.val 10 false (.int .i64), .val 54 false (.int .i64)] | false => .none, fun _ _ => none, fun _ => none⟩ | false => noHint
theorem Eok_cParts : EnvOk Tryz.prog E_cParts := EnvOk.cons (x := .pure g_pcheck) fn_pcheck (EnvOk.cons (x := .pure g_pmass) fn_pmass (EnvOk.nil _))
def F_cParts (a0 : TDesign) (m1 : List (ByteArray × Int)) (m2 : List (ByteArray × Int)) (m3 : List (ByteArray × Int)) (m4 : List (ByteArray × Int)) (a5 : TMaterials) (R : T → Prop) : Prop :=
  loopK (Int × PUnit)
  (fun (X0 : Int × PUnit → Prop) (s1 : Int × PUnit) =>
    iteP (decide (s1.fst < (↑(List.map yPart.enc a0.snd.snd.fst).length : Int)))
      (rowsK yPart (List.map yPart.enc a0.snd.snd.fst) s1.fst fun (y2 : TPart) =>
        callK [(false, Sy.int IntKind.i64)]
          (g_pcheck [encV true yPart y2, encV true yMaterials a5]) fun (y3 : Int) =>
          iteP (!decide (y3 = 0)) (R (T.v (Value.int IntKind.i64 y3)))
            (findK TypeDesc.string (Value.string y2.snd.snd.snd.fst) (mpD (encM m1)) false
              (Sy.int IntKind.i64) (R (T.v (Value.int IntKind.i64 8))) fun (i4 : Nat) (y5 : Int) =>
              X0 (IntKind.i64.wrap (s1.fst + 1), ())))
      (loopK (Int × Int × PUnit)
        (fun (X6 : Int × Int × PUnit → Prop) (s7 : Int × Int × PUnit) =>
          iteP (decide (s7.snd.fst < (↑(List.map yPart.enc a0.snd.snd.fst).length : Int)))
            (rowsK yPart (List.map yPart.enc a0.snd.snd.fst) s7.snd.fst fun (y8 : TPart) =>
              callK [(false, Sy.int IntKind.i64), (false, Sy.int IntKind.i64)]
                (g_pmass [encV true yPart y8, encV true yMaterials a5])
                fun (y9 : TPoint) =>
                iteP (decide (1099511627776 < IntKind.i64.wrap (s7.fst + y9.fst)))
                  (R (T.v (Value.int IntKind.i64 13)))
                  (X6 (IntKind.i64.wrap (s7.fst + y9.fst), IntKind.i64.wrap (s7.snd.fst + 1), ())))
            (R (T.v (Value.int IntKind.i64 0))))
        (0, 0, ())))
  (0, ())
theorem F_cParts_eq (a0 : TDesign) (m1 : List (ByteArray × Int)) (m2 : List (ByteArray × Int)) (m3 : List (ByteArray × Int)) (m4 : List (ByteArray × Int)) (a5 : TMaterials) (R : T → Prop) : sxTop stdC2 Tryz.prog E_cParts H_cParts 8 27 (A_cParts a0 m1 m2 m3 m4 a5) R = F_cParts a0 m1 m2 m3 m4 a5 R := by kernel_rfl
abbrev r_cParts : Sh := [(false, Sy.int IntKind.i64)]
theorem r_cParts_call (y : Sh.den r_cParts) (K : Sh.den r_cParts → Prop) : callK r_cParts (some (Sh.enc r_cParts y)) K = K y := callK_enc rfl y K

set_option maxRecDepth 100000
def A_cPacks (a0 : TDesign) (m1 : List (ByteArray × Int)) (m2 : List (ByteArray × Int)) (m3 : List (ByteArray × Int)) (m4 : List (ByteArray × Int)) : List T := [tRef a0 m1 m2 m3 m4]
noncomputable def E_cPacks : Env := Env.of [(67, .pure g_isId), (62, .pure g_ri), (72, .pure g_strF), (71, .pure g_isBlk), (68, .pure g_tclimb), (73, .new g_order)]
def H_cPacks : FuncId → Hint := fun f => match f == 29 with | true => ⟨fun r => match r == 4 with | true => .inv [.own 3 2 (.pr (.int .i64) (.int .i64)), .map 0 .str false .bool, .val 29 false (.int .i64)] | false => match r == 15 with | true => .inv [.val 76 false (.int .i64), .map 0 .str false .bool] | false => match r == 31 with | true => .inv [.own 3 2 (.pr (.int .i64) (.int .i64)), .val 147 false (.int .i64)] | false => .none, fun _ _ => none, fun _ => none⟩ | false => noHint
theorem Eok_cPacks : EnvOk Tryz.prog E_cPacks := EnvOk.cons (x := .pure g_isId) fn_isId (EnvOk.cons (x := .pure g_ri) fn_ri (EnvOk.cons (x := .pure g_strF) fn_strF (EnvOk.cons (x := .pure g_isBlk) fn_isBlk (EnvOk.cons (x := .pure g_tclimb) fn_tclimb (EnvOk.cons (x := .new g_order) fn_order (EnvOk.nil _))))))
def F_cPacks (a0 : TDesign) (m1 : List (ByteArray × Int)) (m2 : List (ByteArray × Int)) (m3 : List (ByteArray × Int)) (m4 : List (ByteArray × Int)) (R : T → Prop) : Prop :=
  decMK Sy.str false Sy.bool [] fun (y0 : List (ByteArray × Bool)) =>
  loopK (List TPoint × List (ByteArray × Bool) × Int × PUnit)
    (fun (X1 : List TPoint × List (ByteArray × Bool) × Int × PUnit → Prop)
        (s2 : List TPoint × List (ByteArray × Bool) × Int × PUnit) =>
      iteP (decide (s2.snd.snd.fst < (↑(List.map yPackage.enc a0.snd.snd.snd.snd.fst).length : Int)))
        (rowsK yPackage (List.map yPackage.enc a0.snd.snd.snd.snd.fst) s2.snd.snd.fst
          fun (y3 : TPackage) =>
          callK [(false, Sy.bool)] (g_isId [T.v (Value.string y3.fst)]) fun (y4 : Bool) =>
            iteP (!y4) (R (T.v (Value.int IntKind.i64 6)))
              (callK [(false, Sy.bool)]
                (g_isBlk
                  [T.ref
                      [T.ref
                          [T.v (Value.string a0.fst), T.sl false (List.map yNode.enc a0.snd.fst),
                            T.sl false (List.map yPart.enc a0.snd.snd.fst),
                            T.sl false (List.map ySeam.enc a0.snd.snd.snd.fst),
                            T.sl false (List.map yPackage.enc a0.snd.snd.snd.snd.fst),
                            T.sl false (List.map yNeed.enc a0.snd.snd.snd.snd.snd)],
                        T.mp (encM m1), T.mp (encM m2), T.mp (encM m3),
                        T.mp (encM m4)],
                    T.v (Value.string y3.snd.fst)])
                fun (y5 : Bool) =>
                iteP (!y5) (R (T.v (Value.int IntKind.i64 8)))
                  (iteP (decide (y3.snd.snd.snd.fst < 1)) (R (T.v (Value.int IntKind.i64 9)))
                    (iteP (decide (10000 < y3.snd.snd.snd.fst)) (R (T.v (Value.int IntKind.i64 9)))
                      (callK [(false, Sy.any)]
                        (g_strF [T.sl false (List.map Sy.str.enc y3.snd.snd.fst)])
                        fun (y6 : T) =>
                        callK [(false, Sy.bool)]
                          (g_ri
                            [T.v
                                (Value.int IntKind.i64
                                  (↑(List.map Sy.str.enc y3.snd.snd.fst).length : Int)),
                              y6])
                          fun (y7 : Bool) =>
                          iteP (!y7) (R (T.v (Value.int IntKind.i64 11)))
                            (callK [(false, Sy.any)]
                              (g_strF [T.sl false (List.map Sy.str.enc y3.snd.snd.snd.snd)])
                              fun (y8 : T) =>
                              callK [(false, Sy.bool)]
                                (g_ri
                                  [T.v
                                      (Value.int IntKind.i64
                                        (↑(List.map Sy.str.enc y3.snd.snd.snd.snd).length : Int)),
                                    y8])
                                fun (y9 : Bool) =>
                                iteP (!y9) (R (T.v (Value.int IntKind.i64 11)))
                                  (decMK Sy.str false Sy.bool
                                    (List.map (encE Sy.str false Sy.bool) s2.snd.fst)
                                    fun (y10 : List (ByteArray × Bool)) =>
                                    loopK (Int × List (ByteArray × Bool) × PUnit)
                                      (fun (X11 : Int × List (ByteArray × Bool) × PUnit → Prop)
                                          (s12 : Int × List (ByteArray × Bool) × PUnit) =>
                                        iteP
                                          (decide
                                            (s12.fst < (↑(List.map Sy.str.enc y3.snd.snd.fst).length : Int)))
                                          (rowsK Sy.str (List.map Sy.str.enc y3.snd.snd.fst) s12.fst
                                            fun (y13 : ByteArray) =>
                                            findK TypeDesc.string (Value.string y13)
                                              (mpD (encM m2)) false (Sy.int IntKind.i64)
                                              (R (T.v (Value.int IntKind.i64 8)))
                                              fun (i14 : Nat) (y15 : Int) =>
                                              rowsK yPart (List.map yPart.enc a0.snd.snd.fst) y15
                                                fun (y16 : TPart) =>
                                                iteP (!decide (y16.snd.snd.fst = 4))
                                                  (iteP (!decide (y16.snd.snd.fst = 3))
                                                    (R (T.v (Value.int IntKind.i64 10)))
                                                    (rowsK yPart (List.map yPart.enc a0.snd.snd.fst)
                                                      y15 fun (y17 : TPart) =>
                                                      callK [(false, Sy.str.li), (false, Sy.bool)]
                                                        (g_tclimb
                                                          [T.ref
                                                              [T.ref
                                                                  [T.v (Value.string a0.fst),
                                                                    T.sl false
                                                                      (List.map yNode.enc a0.snd.fst),
                                                                    T.sl false
                                                                      (List.map yPart.enc a0.snd.snd.fst),
                                                                    T.sl false
                                                                      (List.map ySeam.enc a0.snd.snd.snd.fst),
                                                                    T.sl false
                                                                      (List.map yPackage.enc
                                                                        a0.snd.snd.snd.snd.fst),
                                                                    T.sl false
                                                                      (List.map yNeed.enc
                                                                        a0.snd.snd.snd.snd.snd)],
                                                                T.mp (encM m1), T.mp (encM m2),
                                                                T.mp (encM m3), T.mp (encM m4)],
                                                            T.v (Value.string y17.snd.snd.snd.fst)])
                                                        fun (y18 : List ByteArray × Bool) =>
                                                        iteP
                                                          (decide
                                                            ((↑(List.map Sy.str.enc y18.fst).length : Int) = 0))
                                                          (R (T.v (Value.int IntKind.i64 2)))
                                                          (rowsK Sy.str (List.map Sy.str.enc y18.fst)
                                                            (IntKind.i64.wrap
                                                              ((↑(List.map Sy.str.enc y18.fst).length : Int) - 1))
                                                            fun (y19 : ByteArray) =>
                                                            iteP (!decide (y19 = y3.snd.fst))
                                                              (R (T.v (Value.int IntKind.i64 2)))
                                                              (findK TypeDesc.string (Value.string y13)
                                                                (List.map (encE Sy.str false Sy.bool)
                                                                  s12.snd.fst)
                                                                false Sy.bool
                                                                (optK (Option (Nat × D))
                                                                  (findD TypeDesc.string (Value.string y13)
                                                                    (List.map
                                                                      (encE Sy.str false Sy.bool)
                                                                      s12.snd.fst)
                                                                    0)
                                                                  fun (y24 : Option (Nat × D)) =>
                                                                  decMK Sy.str false Sy.bool
                                                                    (setEnt
                                                                      (List.map
                                                                        (encE Sy.str false Sy.bool)
                                                                        s12.snd.fst)
                                                                      y24 (Value.string y13)
                                                                      (D.p (T.v (Value.bool true))))
                                                                    fun (y25 : List (ByteArray × Bool)) =>
                                                                    X11 (IntKind.i64.wrap (s12.fst + 1), y25, ()))
                                                                fun (i20 : Nat) (y21 : Bool) =>
                                                                iteP y21
                                                                  (R (T.v (Value.int IntKind.i64 7)))
                                                                  (optK (Option (Nat × D))
                                                                    (findD TypeDesc.string
                                                                      (Value.string y13)
                                                                      (List.map
                                                                        (encE Sy.str false Sy.bool)
                                                                        s12.snd.fst)
                                                                      0)
                                                                    fun (y22 : Option (Nat × D)) =>
                                                                    decMK Sy.str false Sy.bool
                                                                      (setEnt
                                                                        (List.map
                                                                          (encE Sy.str false Sy.bool)
                                                                          s12.snd.fst)
                                                                        y22 (Value.string y13)
                                                                        (D.p (T.v (Value.bool true))))
                                                                      fun (y23 : List (ByteArray × Bool)) =>
                                                                      X11
                                                                        (IntKind.i64.wrap (s12.fst + 1), y23,
                                                                          ()))))))
                                                  (rowsK yPart (List.map yPart.enc a0.snd.snd.fst) y15
                                                    fun (y26 : TPart) =>
                                                    callK [(false, Sy.str.li), (false, Sy.bool)]
                                                      (g_tclimb
                                                        [T.ref
                                                            [T.ref
                                                                [T.v (Value.string a0.fst),
                                                                  T.sl false
                                                                    (List.map yNode.enc a0.snd.fst),
                                                                  T.sl false
                                                                    (List.map yPart.enc a0.snd.snd.fst),
                                                                  T.sl false
                                                                    (List.map ySeam.enc a0.snd.snd.snd.fst),
                                                                  T.sl false
                                                                    (List.map yPackage.enc
                                                                      a0.snd.snd.snd.snd.fst),
                                                                  T.sl false
                                                                    (List.map yNeed.enc a0.snd.snd.snd.snd.snd)],
                                                              T.mp (encM m1), T.mp (encM m2),
                                                              T.mp (encM m3), T.mp (encM m4)],
                                                          T.v (Value.string y26.snd.snd.snd.fst)])
                                                      fun (y27 : List ByteArray × Bool) =>
                                                      iteP
                                                        (decide
                                                          ((↑(List.map Sy.str.enc y27.fst).length : Int) = 0))
                                                        (R (T.v (Value.int IntKind.i64 2)))
                                                        (rowsK Sy.str (List.map Sy.str.enc y27.fst)
                                                          (IntKind.i64.wrap
                                                            ((↑(List.map Sy.str.enc y27.fst).length : Int) - 1))
                                                          fun (y28 : ByteArray) =>
                                                          iteP (!decide (y28 = y3.snd.fst))
                                                            (R (T.v (Value.int IntKind.i64 2)))
                                                            (findK TypeDesc.string (Value.string y13)
                                                              (List.map (encE Sy.str false Sy.bool)
                                                                s12.snd.fst)
                                                              false Sy.bool
                                                              (optK (Option (Nat × D))
                                                                (findD TypeDesc.string (Value.string y13)
                                                                  (List.map
                                                                    (encE Sy.str false Sy.bool)
                                                                    s12.snd.fst)
                                                                  0)
                                                                fun (y33 : Option (Nat × D)) =>
                                                                decMK Sy.str false Sy.bool
                                                                  (setEnt
                                                                    (List.map
                                                                      (encE Sy.str false Sy.bool)
                                                                      s12.snd.fst)
                                                                    y33 (Value.string y13)
                                                                    (D.p (T.v (Value.bool true))))
                                                                  fun (y34 : List (ByteArray × Bool)) =>
                                                                  X11 (IntKind.i64.wrap (s12.fst + 1), y34, ()))
                                                              fun (i29 : Nat) (y30 : Bool) =>
                                                              iteP y30
                                                                (R (T.v (Value.int IntKind.i64 7)))
                                                                (optK (Option (Nat × D))
                                                                  (findD TypeDesc.string (Value.string y13)
                                                                    (List.map
                                                                      (encE Sy.str false Sy.bool)
                                                                      s12.snd.fst)
                                                                    0)
                                                                  fun (y31 : Option (Nat × D)) =>
                                                                  decMK Sy.str false Sy.bool
                                                                    (setEnt
                                                                      (List.map
                                                                        (encE Sy.str false Sy.bool)
                                                                        s12.snd.fst)
                                                                      y31 (Value.string y13)
                                                                      (D.p (T.v (Value.bool true))))
                                                                    fun (y32 : List (ByteArray × Bool)) =>
                                                                    X11
                                                                      (IntKind.i64.wrap (s12.fst + 1), y32, ()))))))
                                          (decK yPoint (List.map yPoint.enc s2.fst)
                                            fun (y35 : List TPoint) =>
                                            loopK (List TPoint × Int × PUnit)
                                              (fun (X36 : List TPoint × Int × PUnit → Prop)
                                                  (s37 : List TPoint × Int × PUnit) =>
                                                iteP
                                                  (decide
                                                    (s37.snd.fst <
                                                      (↑(List.map Sy.str.enc y3.snd.snd.snd.snd).length : Int)))
                                                  (rowsK Sy.str
                                                    (List.map Sy.str.enc y3.snd.snd.snd.snd) s37.snd.fst
                                                    fun (y38 : ByteArray) =>
                                                    iteP (decide (y38 = y3.fst))
                                                      (R (T.v (Value.int IntKind.i64 2)))
                                                      (findK TypeDesc.string (Value.string y38)
                                                        (mpD (encM m4)) false (Sy.int IntKind.i64)
                                                        (R (T.v (Value.int IntKind.i64 8)))
                                                        fun (i39 : Nat) (y40 : Int) =>
                                                        reqK
                                                          (decide
                                                              (((List.map yPoint.enc s37.fst).length + 1) * 16 ≤
                                                                140737488355328) &&
                                                            decide
                                                              ((List.map yPoint.enc s37.fst).length + 1 ≤
                                                                140737488355328))
                                                          (decK yPoint
                                                            (List.map yPoint.enc s37.fst ++
                                                              [[T.v (Value.int IntKind.i64 y40),
                                                                  T.v
                                                                    (Value.int IntKind.i64 s2.snd.snd.fst)]])
                                                            fun (y41 : List TPoint) =>
                                                            X36 (y41, IntKind.i64.wrap (s37.snd.fst + 1), ()))))
                                                  (decK yPoint (List.map yPoint.enc s37.fst)
                                                    fun (y42 : List TPoint) =>
                                                    decMK Sy.str false Sy.bool
                                                      (List.map (encE Sy.str false Sy.bool)
                                                        s12.snd.fst)
                                                      fun (y43 : List (ByteArray × Bool)) =>
                                                      X1 (y42, y43, IntKind.i64.wrap (s2.snd.snd.fst + 1), ())))
                                              (y35, 0, ())))
                                      (0, y10, ()))))))))
        (callK [(false, (Sy.int IntKind.i64).li), (false, Sy.int IntKind.i64)]
          (g_order
            [T.v
                (Value.int IntKind.i64 (↑(List.map yPackage.enc a0.snd.snd.snd.snd.fst).length : Int)),
              T.sl false (List.map yPoint.enc s2.fst)])
          fun (y44 : List Int × Int) =>
          iteP (!decide (y44.snd = 0)) (R (T.v (Value.int IntKind.i64 20)))
            (R (T.v (Value.int IntKind.i64 0)))))
    ([], y0, 0, ())
theorem F_cPacks_eq (a0 : TDesign) (m1 : List (ByteArray × Int)) (m2 : List (ByteArray × Int)) (m3 : List (ByteArray × Int)) (m4 : List (ByteArray × Int)) (R : T → Prop) : sxTop stdC2 Tryz.prog E_cPacks H_cPacks 8 29 (A_cPacks a0 m1 m2 m3 m4) R = F_cPacks a0 m1 m2 m3 m4 R := by kernel_rfl
abbrev r_cPacks : Sh := [(false, Sy.int IntKind.i64)]
theorem r_cPacks_call (y : Sh.den r_cPacks) (K : Sh.den r_cPacks → Prop) : callK r_cPacks (some (Sh.enc r_cPacks y)) K = K y := callK_enc rfl y K

theorem A_cParts_inj (x y : TDesign × MP × MP × MP × MP × TMaterials) (h : A_cParts x.1 x.2.1 x.2.2.1 x.2.2.2.1 x.2.2.2.2.1 x.2.2.2.2.2 = A_cParts y.1 y.2.1 y.2.2.1 y.2.2.2.1 y.2.2.2.2.1 y.2.2.2.2.2) : x = y := by
  obtain ⟨h1, h2⟩ := List.cons.inj h
  have := tRef_inj (x := (x.1, x.2.1, x.2.2.1, x.2.2.2.1, x.2.2.2.2.1)) (y := (y.1, y.2.1, y.2.2.1, y.2.2.2.1, y.2.2.2.2.1)) h1
  have h2 := Sy.enc_inj yMaterials _ _ (T.agg.inj (List.cons.inj h2).1)
  simp only [Prod.mk.injEq] at this
  obtain ⟨e1, e2, e3, e4, e5⟩ := this
  exact Prod.ext e1 (Prod.ext e2 (Prod.ext e3 (Prod.ext e4 (Prod.ext e5 h2))))
theorem A_cPacks_inj (x y : TDesign × MP × MP × MP × MP) (h : A_cPacks x.1 x.2.1 x.2.2.1 x.2.2.2.1 x.2.2.2.2 = A_cPacks y.1 y.2.1 y.2.2.1 y.2.2.2.1 y.2.2.2.2) : x = y := tRef_inj (List.cons.inj h).1
def sp_cParts (x : TDesign × MP × MP × MP × MP × TMaterials) : Option T := match x.1.2.2.1 with
  | [] => onlyT (x.1, x.2.1, x.2.2.1, x.2.2.2.1, x.2.2.2.2.1) (T.v (Value.int .i64 0))
  | p :: _ => match isId p.1 with
    | false => onlyT (x.1, x.2.1, x.2.2.1, x.2.2.2.1, x.2.2.2.2.1) (T.v (Value.int .i64 6))
    | true => none
def sp_cPacks (x : TDesign × MP × MP × MP × MP) : Option T := match x.1.2.2.2.2.1 with
  | [] => onlyT x (T.v (Value.int .i64 0))
  | p :: _ => match isId p.1 with
    | false => onlyT x (T.v (Value.int .i64 6))
    | true => none
noncomputable def g_cParts : List T → Option (T) := gA (fun (x : TDesign × (List (ByteArray × Int)) × (List (ByteArray × Int)) × (List (ByteArray × Int)) × (List (ByteArray × Int)) × TMaterials) => A_cParts x.1 x.2.1 x.2.2.1 x.2.2.2.1 x.2.2.2.2.1 x.2.2.2.2.2) sp_cParts
theorem g_cParts_at (a0 : TDesign) (m1 : List (ByteArray × Int)) (m2 : List (ByteArray × Int)) (m3 : List (ByteArray × Int)) (m4 : List (ByteArray × Int)) (a5 : TMaterials) : g_cParts (A_cParts a0 m1 m2 m3 m4 a5) = sp_cParts (a0, m1, m2, m3, m4, a5) := gA_at (A := (fun (x : TDesign × (List (ByteArray × Int)) × (List (ByteArray × Int)) × (List (ByteArray × Int)) × (List (ByteArray × Int)) × TMaterials) => A_cParts x.1 x.2.1 x.2.2.1 x.2.2.2.1 x.2.2.2.2.1 x.2.2.2.2.2)) A_cParts_inj (a0, m1, m2, m3, m4, a5)
theorem of_cParts (h : ∀ (a0 : TDesign) (m1 : List (ByteArray × Int)) (m2 : List (ByteArray × Int)) (m3 : List (ByteArray × Int)) (m4 : List (ByteArray × Int)) (a5 : TMaterials) (r : T), sp_cParts (a0, m1, m2, m3, m4, a5) = some r → (∀ t ∈ A_cParts a0 m1 m2 m3 m4 a5, Bd t) → F_cParts a0 m1 m2 m3 m4 a5 (fun y => y = r)) : PureFn Tryz.prog 27 g_cParts :=
  pureFn_A (E := E_cParts) (Hs := H_cParts) Eok_cParts mixed' plain' (noHeap_of rfl) 8 ⟨_, _, Tryz.func27, rfl⟩ fun x r h1 h2 => by
    rw [F_cParts_eq]
    exact h x.1 x.2.1 x.2.2.1 x.2.2.2.1 x.2.2.2.2.1 x.2.2.2.2.2 r h1 h2

noncomputable def g_cPacks : List T → Option (T) := gA (fun (x : TDesign × (List (ByteArray × Int)) × (List (ByteArray × Int)) × (List (ByteArray × Int)) × List (ByteArray × Int)) => A_cPacks x.1 x.2.1 x.2.2.1 x.2.2.2.1 x.2.2.2.2) sp_cPacks
theorem g_cPacks_at (a0 : TDesign) (m1 : List (ByteArray × Int)) (m2 : List (ByteArray × Int)) (m3 : List (ByteArray × Int)) (m4 : List (ByteArray × Int)) : g_cPacks (A_cPacks a0 m1 m2 m3 m4) = sp_cPacks (a0, m1, m2, m3, m4) := gA_at (A := (fun (x : TDesign × (List (ByteArray × Int)) × (List (ByteArray × Int)) × (List (ByteArray × Int)) × List (ByteArray × Int)) => A_cPacks x.1 x.2.1 x.2.2.1 x.2.2.2.1 x.2.2.2.2)) A_cPacks_inj (a0, m1, m2, m3, m4)
theorem of_cPacks (h : ∀ (a0 : TDesign) (m1 : List (ByteArray × Int)) (m2 : List (ByteArray × Int)) (m3 : List (ByteArray × Int)) (m4 : List (ByteArray × Int)) (r : T), sp_cPacks (a0, m1, m2, m3, m4) = some r → (∀ t ∈ A_cPacks a0 m1 m2 m3 m4, Bd t) → F_cPacks a0 m1 m2 m3 m4 (fun y => y = r)) : PureFn Tryz.prog 29 g_cPacks :=
  pureFn_A (E := E_cPacks) (Hs := H_cPacks) Eok_cPacks mixed' plain' (noHeap_of rfl) 8 ⟨_, _, Tryz.func29, rfl⟩ fun x r h1 h2 => by
    rw [F_cPacks_eq]
    exact h x.1 x.2.1 x.2.2.1 x.2.2.2.1 x.2.2.2.2 r h1 h2

theorem loop_one {S : Type} {F : (S → Prop) → S → Prop} {s : S} (h : ∀ X, F X s) : loopK S F s := fun X hX => hX s (h X)
theorem rowsK_zero {r : Sy} {a : r.den} {l : List r.den} (K : r.den → Prop) (hk : K a) : rowsK r (List.map r.enc (a :: l)) 0 K := ⟨a, by omega, rfl, hk⟩
theorem fn_cParts : PureFn Tryz.prog 27 g_cParts := of_cParts fun d m1 m2 m3 m4 m r h hb => by
  unfold sp_cParts at h
  unfold F_cParts
  refine loop_one fun X => ?_
  dsimp only
  split at h
  · rename_i hl
    have hl : d.2.2.1 = [] := hl
    obtain ⟨hx, hs, rfl⟩ := onlyT_of h
    rw [hl]
    refine ifP (fun h => absurd h (by decide)) fun _ => ?_
    refine loop_one fun X => ?_
    exact ifP (fun h => absurd h (by decide)) fun _ => rfl
  · rename_i p l hl
    have hl : d.2.2.1 = p :: l := hl
    split at h
    · rename_i hid
      obtain ⟨hx, hs, rfl⟩ := onlyT_of h
      rw [hl]
      refine ifP (fun _ => ?_) fun h => absurd (by simp) h
      refine rowsK_zero (r := yPart) _ ?_
      refine callK_some (s := [(false, .int .i64)]) (y := 6) (by rw [g_pcheck_at]; unfold sp_pcheck; rw [hid]; rfl) ?_
      exact ifQ (fun _ => rfl) fun h => absurd h (by decide)
    · cases h
theorem fn_cPacks : PureFn Tryz.prog 29 g_cPacks := of_cPacks fun d m1 m2 m3 m4 r h hb => by
  unfold sp_cPacks at h
  unfold F_cPacks
  refine decMK_eS (r := .bool) rfl [] _ ?_
  refine loop_one fun X => ?_
  dsimp only
  split at h
  · rename_i hl
    have hl : d.2.2.2.2.1 = [] := hl
    obtain ⟨hx, hs, rfl⟩ := onlyT_of h
    rw [hl]
    refine ifP (fun h => absurd h (by decide)) fun _ => ?_
    refine callK_some (s := [(false, .li (.int .i64)), (false, .int .i64)]) (y := ([], 0)) (g_order_at (a0 := 0) (a1 := [])) ?_
    exact ifQ (fun h => absurd rfl h) fun _ => rfl
  · rename_i p l hl
    have hl : d.2.2.2.2.1 = p :: l := hl
    split at h
    · rename_i hid
      obtain ⟨hx, hs, rfl⟩ := onlyT_of h
      rw [hl]
      refine ifP (fun _ => ?_) fun h => absurd (by simp) h
      refine rowsK_zero (r := yPackage) _ ?_
      rw [isId_call, hid]
      rfl
    · cases h
end Go.Pv
set_option linter.unusedSimpArgs false
set_option linter.unusedVariables false
set_option maxRecDepth 100000
namespace Go.Pv
open Go Go.Proofs
def g_n5 : List T → Option T := fun _ => none
theorem fn_n5 : PureFn Tryz.prog 55 g_n5 := PureFn.nil (entry_of plain' ⟨_, _, Tryz.func55, rfl⟩)
def g_n6 : List T → Option T := fun _ => none
theorem fn_n6 : PureFn Tryz.prog 56 g_n6 := PureFn.nil (entry_of plain' ⟨_, _, Tryz.func56, rfl⟩)
set_option maxRecDepth 100000
noncomputable def E_matL : Env := Env.of [(55, .pure g_n5), (56, .pure g_n6)]
def H_matL : FuncId → Hint := fun f => match f == 22 with | true => ⟨fun r => match r == 4 with | true => .inv [.val 22 false (.int .i64)] | false => match r == 13 with | true => .inv [.val 50 false (.int .i64)] | false => .none, fun _ _ => none, fun _ => none⟩ | false => noHint
theorem Eok_matL : EnvOk Tryz.prog E_matL := EnvOk.cons (x := .pure g_n5) fn_n5 (EnvOk.cons (x := .pure g_n6) fn_n6 (EnvOk.nil _))
def F_matL (a0 : TMaterials) (R : T → Prop) : Prop :=
  iteP (decide (16 < (↑(List.map yGrade.enc a0.fst).length : Int)))
  (R (T.v (Value.int IntKind.i64 4)))
  (iteP (decide (32 < (↑(List.map ySection.enc a0.snd).length : Int)))
    (R (T.v (Value.int IntKind.i64 4)))
    (loopK (Int × PUnit)
      (fun (X0 : Int × PUnit → Prop) (s1 : Int × PUnit) =>
        iteP (decide (s1.fst < (↑(List.map yGrade.enc a0.fst).length : Int)))
          (rowsK yGrade (List.map yGrade.enc a0.fst) s1.fst fun (y2 : TGrade) =>
            callK [(false, Sy.int IntKind.i64)] (g_n5 [encV true yGrade y2])
              fun (y3 : Int) =>
              iteP (!decide (y3 = 0)) (R (T.v (Value.int IntKind.i64 y3)))
                (iteP (decide (0 < s1.fst))
                  (rowsK yGrade (List.map yGrade.enc a0.fst) (IntKind.i64.wrap (s1.fst - 1))
                    fun (y4 : TGrade) =>
                    iteP (sless y2.fst y4.fst || decide (y2.fst = y4.fst))
                      (R (T.v (Value.int IntKind.i64 11))) (X0 (IntKind.i64.wrap (s1.fst + 1), ())))
                  (X0 (IntKind.i64.wrap (s1.fst + 1), ()))))
          (loopK (Int × PUnit)
            (fun (X5 : Int × PUnit → Prop) (s6 : Int × PUnit) =>
              iteP (decide (s6.fst < (↑(List.map ySection.enc a0.snd).length : Int)))
                (rowsK ySection (List.map ySection.enc a0.snd) s6.fst fun (y7 : TSection) =>
                  callK [(false, Sy.int IntKind.i64)] (g_n6 [encV true ySection y7])
                    fun (y8 : Int) =>
                    iteP (!decide (y8 = 0)) (R (T.v (Value.int IntKind.i64 y8)))
                      (iteP (decide (0 < s6.fst))
                        (rowsK ySection (List.map ySection.enc a0.snd)
                          (IntKind.i64.wrap (s6.fst - 1)) fun (y9 : TSection) =>
                          iteP (sless y7.fst y9.fst || decide (y7.fst = y9.fst))
                            (R (T.v (Value.int IntKind.i64 11)))
                            (X5 (IntKind.i64.wrap (s6.fst + 1), ())))
                        (X5 (IntKind.i64.wrap (s6.fst + 1), ()))))
                (R (T.v (Value.int IntKind.i64 0))))
            (0, ())))
      (0, ())))
theorem F_matL_eq (a0 : TMaterials) (R : T → Prop) : sxTop stdC2 Tryz.prog E_matL H_matL 8 22 [encV true yMaterials a0] R = F_matL a0 R := by kernel_rfl
abbrev s_matL : Sh := [(true, yMaterials)]
abbrev r_matL : Sh := [(false, Sy.int IntKind.i64)]
theorem r_matL_call (y : Sh.den r_matL) (K : Sh.den r_matL → Prop) : callK r_matL (some (Sh.enc r_matL y)) K = K y := callK_enc rfl y K

def sp_matL (m : TMaterials) : Option T := match m with
  | ([], []) => some (T.v (Value.int .i64 0))
  | _ => none
noncomputable def g_matL : List T → Option (T) := gS s_matL sp_matL
theorem g_matL_at {a0 : TMaterials} : g_matL [encV true yMaterials a0] = sp_matL (a0) := gS_enc (s := s_matL) rfl (a0) rfl
theorem g_matL_op {u0 u1} : g_matL [T.agg [T.sl false (List.map yGrade.enc u0), T.sl false (List.map ySection.enc u1)]] = sp_matL ((u0, u1)) := gS_enc (s := s_matL) rfl ((u0, u1)) rfl
theorem of_matL (h : ∀ (a0 : TMaterials) (r : T), sp_matL (a0) = some r → BdSh s_matL (a0) → F_matL a0 (fun y => y = r)) : PureFn Tryz.prog 22 g_matL :=
  pureFn_S (E := E_matL) (Hs := H_matL) Eok_matL mixed' plain' (noHeap_of rfl) 8 ⟨_, _, Tryz.func22, rfl⟩ rfl fun x r h1 h2 => by
    let a0 := x
    rw [show Sh.encs s_matL (a0) = [encV true yMaterials a0] from rfl, F_matL_eq]
    exact h a0 r h1 h2

theorem fn_matL : PureFn Tryz.prog 22 g_matL := of_matL fun m r h hb => by
  unfold sp_matL at h
  split at h
  · cases h
    unfold F_matL
    refine ifP (fun h => absurd h (by decide)) fun _ => ?_
    refine ifP (fun h => absurd h (by decide)) fun _ => ?_
    refine loop_one fun X => ?_
    refine ifP (fun h => absurd h (by decide)) fun _ => ?_
    refine loop_one fun X => ?_
    exact ifP (fun h => absurd h (by decide)) fun _ => rfl
  · cases h
noncomputable def g_ixA : List T → Option (List (ByteArray × Int)) := g_ix
theorem fn_ixA : NewFn Tryz.prog 57 (gMap g_ixA) := fn_ix
set_option maxRecDepth 100000
noncomputable def E_chkL : Env := Env.of [(22, .pure g_matL), (23, .pure g_isName), (57, .fmap g_ixA), (25, .pure g_form), (26, .pure g_cNodes), (27, .pure g_cParts), (28, .pure g_cSeams), (29, .pure g_cPacks), (30, .pure g_cNeeds)]
def H_chkL : FuncId → Hint := fun _ => noHint
theorem Eok_chkL : EnvOk Tryz.prog E_chkL := EnvOk.cons (x := .pure g_matL) fn_matL (EnvOk.cons (x := .pure g_isName) fn_isName (EnvOk.cons (x := .fmap g_ixA) fn_ixA (EnvOk.cons (x := .pure g_form) fn_form (EnvOk.cons (x := .pure g_cNodes) fn_cNodes (EnvOk.cons (x := .pure g_cParts) fn_cParts (EnvOk.cons (x := .pure g_cSeams) fn_cSeams (EnvOk.cons (x := .pure g_cPacks) fn_cPacks (EnvOk.cons (x := .pure g_cNeeds) fn_cNeeds (EnvOk.nil _)))))))))
def F_chkL (a0 : TDesign) (a1 : TMaterials) (R : T → Prop) : Prop :=
  callK [(false, Sy.int IntKind.i64)] (g_matL [encV true yMaterials a1])
  fun (y0 : Int) =>
  iteP (!decide (y0 = 0)) (R (T.v (Value.int IntKind.i64 y0)))
    (callK [(false, Sy.bool)] (g_isName [T.v (Value.string a0.fst)]) fun (y1 : Bool) =>
      iteP (!y1) (R (T.v (Value.int IntKind.i64 6)))
        (optK (List (ByteArray × Int))
          (g_ixA
            [T.fn 58 [].reverse
                  [T.ref
                        [T.ref
                              [T.sl false (List.map yNeed.enc a0.snd.snd.snd.snd.snd),
                                  T.sl false (List.map yPackage.enc a0.snd.snd.snd.snd.fst),
                                  T.sl false (List.map ySeam.enc a0.snd.snd.snd.fst),
                                  T.sl false (List.map yPart.enc a0.snd.snd.fst),
                                  T.sl false (List.map yNode.enc a0.snd.fst),
                                  T.v (Value.string a0.fst)].reverse].reverse].reverse,
                T.v (Value.int IntKind.i64 (↑(List.map yNode.enc a0.snd.fst).length : Int))].reverse)
          fun (y2 : List (ByteArray × Int)) =>
          optK (List (ByteArray × Int))
            (g_ixA
              [T.fn 59 [].reverse
                    [T.ref
                          [T.ref
                                [T.sl false (List.map yNeed.enc a0.snd.snd.snd.snd.snd),
                                    T.sl false (List.map yPackage.enc a0.snd.snd.snd.snd.fst),
                                    T.sl false (List.map ySeam.enc a0.snd.snd.snd.fst),
                                    T.sl false (List.map yPart.enc a0.snd.snd.fst),
                                    T.sl false (List.map yNode.enc a0.snd.fst),
                                    T.v (Value.string a0.fst)].reverse].reverse].reverse,
                  T.v
                    (Value.int IntKind.i64 (↑(List.map yPart.enc a0.snd.snd.fst).length : Int))].reverse)
            fun (y3 : List (ByteArray × Int)) =>
            optK (List (ByteArray × Int))
              (g_ixA
                [T.fn 60 [].reverse
                      [T.ref
                            [T.ref
                                  [T.sl false (List.map yNeed.enc a0.snd.snd.snd.snd.snd),
                                      T.sl false (List.map yPackage.enc a0.snd.snd.snd.snd.fst),
                                      T.sl false (List.map ySeam.enc a0.snd.snd.snd.fst),
                                      T.sl false (List.map yPart.enc a0.snd.snd.fst),
                                      T.sl false (List.map yNode.enc a0.snd.fst),
                                      T.v (Value.string a0.fst)].reverse].reverse].reverse,
                    T.v
                      (Value.int IntKind.i64
                        (↑(List.map ySeam.enc a0.snd.snd.snd.fst).length : Int))].reverse)
              fun (y4 : List (ByteArray × Int)) =>
              optK (List (ByteArray × Int))
                (g_ixA
                  [T.fn 61 [].reverse
                        [T.ref
                              [T.ref
                                    [T.sl false (List.map yNeed.enc a0.snd.snd.snd.snd.snd),
                                        T.sl false (List.map yPackage.enc a0.snd.snd.snd.snd.fst),
                                        T.sl false (List.map ySeam.enc a0.snd.snd.snd.fst),
                                        T.sl false (List.map yPart.enc a0.snd.snd.fst),
                                        T.sl false (List.map yNode.enc a0.snd.fst),
                                        T.v (Value.string a0.fst)].reverse].reverse].reverse,
                      T.v
                        (Value.int IntKind.i64
                          (↑(List.map yPackage.enc a0.snd.snd.snd.snd.fst).length : Int))].reverse)
                fun (y5 : List (ByteArray × Int)) =>
                callK [(false, Sy.int IntKind.i64)]
                  (g_form
                    [T.ref
                        [T.ref
                            [T.v (Value.string a0.fst), T.sl false (List.map yNode.enc a0.snd.fst),
                              T.sl false (List.map yPart.enc a0.snd.snd.fst),
                              T.sl false (List.map ySeam.enc a0.snd.snd.snd.fst),
                              T.sl false (List.map yPackage.enc a0.snd.snd.snd.snd.fst),
                              T.sl false (List.map yNeed.enc a0.snd.snd.snd.snd.snd)],
                          T.mp (encM y2), T.mp (encM y3), T.mp (encM y4),
                          T.mp (encM y5)]])
                  fun (y6 : Int) =>
                  iteP (!decide (y6 = 0)) (R (T.v (Value.int IntKind.i64 y6)))
                    (callK [(false, Sy.int IntKind.i64)]
                      (g_cNodes
                        [T.ref
                            [T.ref
                                [T.v (Value.string a0.fst),
                                  T.sl false (List.map yNode.enc a0.snd.fst),
                                  T.sl false (List.map yPart.enc a0.snd.snd.fst),
                                  T.sl false (List.map ySeam.enc a0.snd.snd.snd.fst),
                                  T.sl false (List.map yPackage.enc a0.snd.snd.snd.snd.fst),
                                  T.sl false (List.map yNeed.enc a0.snd.snd.snd.snd.snd)],
                              T.mp (encM y2), T.mp (encM y3), T.mp (encM y4),
                              T.mp (encM y5)]])
                      fun (y7 : Int) =>
                      iteP (!decide (y7 = 0)) (R (T.v (Value.int IntKind.i64 y7)))
                        (callK [(false, Sy.int IntKind.i64)]
                          (g_cParts
                            [T.ref
                                [T.ref
                                    [T.v (Value.string a0.fst),
                                      T.sl false (List.map yNode.enc a0.snd.fst),
                                      T.sl false (List.map yPart.enc a0.snd.snd.fst),
                                      T.sl false (List.map ySeam.enc a0.snd.snd.snd.fst),
                                      T.sl false (List.map yPackage.enc a0.snd.snd.snd.snd.fst),
                                      T.sl false (List.map yNeed.enc a0.snd.snd.snd.snd.snd)],
                                  T.mp (encM y2), T.mp (encM y3), T.mp (encM y4),
                                  T.mp (encM y5)],
                              encV true yMaterials a1])
                          fun (y8 : Int) =>
                          iteP (!decide (y8 = 0)) (R (T.v (Value.int IntKind.i64 y8)))
                            (callK [(false, Sy.int IntKind.i64)]
                              (g_cSeams
                                [T.ref
                                    [T.ref
                                        [T.v (Value.string a0.fst),
                                          T.sl false (List.map yNode.enc a0.snd.fst),
                                          T.sl false (List.map yPart.enc a0.snd.snd.fst),
                                          T.sl false (List.map ySeam.enc a0.snd.snd.snd.fst),
                                          T.sl false (List.map yPackage.enc a0.snd.snd.snd.snd.fst),
                                          T.sl false (List.map yNeed.enc a0.snd.snd.snd.snd.snd)],
                                      T.mp (encM y2), T.mp (encM y3),
                                      T.mp (encM y4), T.mp (encM y5)]])
                              fun (y9 : Int) =>
                              iteP (!decide (y9 = 0)) (R (T.v (Value.int IntKind.i64 y9)))
                                (callK [(false, Sy.int IntKind.i64)]
                                  (g_cPacks
                                    [T.ref
                                        [T.ref
                                            [T.v (Value.string a0.fst),
                                              T.sl false (List.map yNode.enc a0.snd.fst),
                                              T.sl false (List.map yPart.enc a0.snd.snd.fst),
                                              T.sl false (List.map ySeam.enc a0.snd.snd.snd.fst),
                                              T.sl false (List.map yPackage.enc a0.snd.snd.snd.snd.fst),
                                              T.sl false (List.map yNeed.enc a0.snd.snd.snd.snd.snd)],
                                          T.mp (encM y2), T.mp (encM y3),
                                          T.mp (encM y4), T.mp (encM y5)]])
                                  fun (y10 : Int) =>
                                  iteP (!decide (y10 = 0)) (R (T.v (Value.int IntKind.i64 y10)))
                                    (callK [(false, Sy.int IntKind.i64)]
                                      (g_cNeeds
                                        [T.ref
                                            [T.ref
                                                [T.v (Value.string a0.fst),
                                                  T.sl false (List.map yNode.enc a0.snd.fst),
                                                  T.sl false (List.map yPart.enc a0.snd.snd.fst),
                                                  T.sl false (List.map ySeam.enc a0.snd.snd.snd.fst),
                                                  T.sl false (List.map yPackage.enc a0.snd.snd.snd.snd.fst),
                                                  T.sl false (List.map yNeed.enc a0.snd.snd.snd.snd.snd)],
                                              T.mp (encM y2), T.mp (encM y3),
                                              T.mp (encM y4), T.mp (encM y5)]])
                                      fun (y11 : Int) => R (T.v (Value.int IntKind.i64 y11)))))))))
theorem F_chkL_eq (a0 : TDesign) (a1 : TMaterials) (R : T → Prop) : sxTop stdC2 Tryz.prog E_chkL H_chkL 8 10 [encV true yDesign a0, encV true yMaterials a1] R = F_chkL a0 a1 R := by kernel_rfl
abbrev s_chkL : Sh := [(true, yDesign), (true, yMaterials)]
abbrev r_chkL : Sh := [(false, Sy.int IntKind.i64)]
theorem r_chkL_call (y : Sh.den r_chkL) (K : Sh.den r_chkL → Prop) : callK r_chkL (some (Sh.enc r_chkL y)) K = K y := callK_enc rfl y K

theorem firstE_cases {α : Type} {f : α → Int} : ∀ {l : List α}, firstE f l = 0 ∨ ∃ a ∈ l, firstE f l = f a
  | [] => .inl rfl
  | a :: l => by
    unfold firstE
    by_cases h : f a = 0
    · rw [if_pos h]
      rcases firstE_cases (f := f) (l := l) with h | ⟨b, hb, h⟩
      · exact .inl h
      · exact .inr ⟨b, List.mem_cons_of_mem _ hb, h⟩
    · rw [if_neg h]; exact .inr ⟨a, List.mem_cons_self, rfl⟩
def bare {α : Type} (l : List (ByteArray × α)) : Bool := match l with
  | [] => true
  | p :: _ => !isId p.1
def bareE {α : Type} (l : List (ByteArray × α)) : Int := if l.isEmpty = true then 0 else 6
def chkL (d : TDesign) : Int := if formE d = 0 then (if nodesE d = 0 then (if bareE d.2.2.1 = 0 then (if firstE (seamE d) d.2.2.2.1 = 0 then (if bareE d.2.2.2.2.1 = 0 then firstE (needE d) d.2.2.2.2.2 else bareE d.2.2.2.2.1) else firstE (seamE d) d.2.2.2.1) else bareE d.2.2.1) else nodesE d) else formE d
def smallB (d : TDesign) : Bool := decide (d.2.1.length ≤ 1000000) && decide (d.2.2.1.length ≤ 1000000) && decide (d.2.2.2.1.length ≤ 1000000) && decide (d.2.2.2.2.1.length ≤ 1000000) && decide (d.2.2.2.2.2.length ≤ 1000000)
theorem smallB_iff {d : TDesign} : smallB d = true ↔ SmallD d := by
  simp only [smallB, Bool.and_eq_true, decide_eq_true_eq]
  exact ⟨fun ⟨⟨⟨⟨h1, h2⟩, h3⟩, h4⟩, h5⟩ => ⟨h1, h2, h3, h4, h5⟩, fun ⟨h1, h2, h3, h4, h5⟩ => ⟨⟨⟨⟨h1, h2⟩, h3⟩, h4⟩, h5⟩⟩
def sp_chkL (x : TDesign × TMaterials) : Option T := match x.2, smallB x.1 && isName x.1.1 && bare x.1.2.2.1 && bare x.1.2.2.2.2.1 with
  | ([], []), true => some (T.v (Value.int .i64 (chkL x.1)))
  | _, _ => none
noncomputable def g_chkL : List T → Option (T) := gS s_chkL sp_chkL
theorem g_chkL_at {a0 : TDesign} {a1 : TMaterials} : g_chkL [encV true yDesign a0, encV true yMaterials a1] = sp_chkL (a0, a1) := gS_enc (s := s_chkL) rfl (a0, a1) rfl
theorem g_chkL_op {u0 u1 u2 u3 u4 u5 u6 u7} : g_chkL [T.agg
    [T.v (Value.string u0), T.sl false (List.map yNode.enc u1),
      T.sl false (List.map yPart.enc u2),
      T.sl false (List.map ySeam.enc u3),
      T.sl false (List.map yPackage.enc u4),
      T.sl false (List.map yNeed.enc u5)],
  T.agg [T.sl false (List.map yGrade.enc u6), T.sl false (List.map ySection.enc u7)]] = sp_chkL ((u0, (u1, (u2, (u3, (u4, u5))))), (u6, u7)) := gS_enc (s := s_chkL) rfl ((u0, (u1, (u2, (u3, (u4, u5))))), (u6, u7)) rfl
theorem of_chkL (h : ∀ (a0 : TDesign) (a1 : TMaterials) (r : T), sp_chkL (a0, a1) = some r → BdSh s_chkL (a0, a1) → F_chkL a0 a1 (fun y => y = r)) : PureFn Tryz.prog 10 g_chkL :=
  pureFn_S (E := E_chkL) (Hs := H_chkL) Eok_chkL mixed' plain' (noHeap_of rfl) 8 ⟨_, _, Tryz.func10, rfl⟩ rfl fun x r h1 h2 => by
    obtain ⟨a0, a1⟩ := x
    rw [show Sh.encs s_chkL (a0, a1) = [encV true yDesign a0, encV true yMaterials a1] from rfl, F_chkL_eq]
    exact h a0 a1 r h1 h2

theorem cPartsL {d : TDesign} (hs : SmallD d) (hb : bare d.2.2.1 = true) (m : TMaterials) : g_cParts (A_cParts d (ixs (ids d.2.1)) (ixs (ids d.2.2.1)) (ixs (ids d.2.2.2.1)) (ixs (ids d.2.2.2.2.1)) m) = some (T.v (Value.int .i64 (bareE d.2.2.1))) := by
  rw [g_cParts_at]
  unfold sp_cParts
  dsimp only
  split
  · rename_i h; rw [onlyT_ok hs]; rw [show d.2.2.1 = [] from h]; rfl
  · rename_i p l h
    have h : d.2.2.1 = p :: l := h
    rw [h] at hb
    simp only [bare, Bool.not_eq_true'] at hb
    rw [hb]
    dsimp only
    rw [onlyT_ok hs, h]; rfl
theorem cPacksL {d : TDesign} (hs : SmallD d) (hb : bare d.2.2.2.2.1 = true) : g_cPacks (A_cPacks d (ixs (ids d.2.1)) (ixs (ids d.2.2.1)) (ixs (ids d.2.2.2.1)) (ixs (ids d.2.2.2.2.1))) = some (T.v (Value.int .i64 (bareE d.2.2.2.2.1))) := by
  rw [g_cPacks_at]
  unfold sp_cPacks
  dsimp only
  split
  · rename_i h; rw [onlyT_ok hs]; rw [show d.2.2.2.2.1 = [] from h]; rfl
  · rename_i p l h
    have h : d.2.2.2.2.1 = p :: l := h
    rw [h] at hb
    simp only [bare, Bool.not_eq_true'] at hb
    rw [hb]
    dsimp only
    rw [onlyT_ok hs, h]; rfl
theorem ixK_opt {a : Option MP} {es : MP} {K : MP → Prop} (h : a = some es) (hk : K es) : optK (List (ByteArray × Int)) a K := ⟨es, h, hk⟩
theorem fn_chkL : PureFn Tryz.prog 10 g_chkL := of_chkL fun d m r h hb => by
  unfold sp_chkL at h
  split at h
  · rename_i hm hc
    have hm : m = ([], []) := hm
    subst hm
    cases h
    simp only [Bool.and_eq_true, smallB_iff] at hc
    obtain ⟨⟨⟨hs, hn⟩, hp⟩, hk⟩ := hc
    have is : ∀ {n : Int}, chkL d = n → T.v (Value.int IntKind.i64 n) = T.v (Value.int IntKind.i64 (chkL d)) := fun h => by rw [h]
    unfold F_chkL
    refine callK_some (s := [(false, .int .i64)]) (y := 0) g_matL_at ?_
    refine ifQ (fun h => absurd rfl h) fun _ => ?_
    refine callK_some (s := [(false, .bool)]) (y := isName d.1) g_isName_at ?_
    rw [hn, Bool.not_true, iteP_f]
    refine ixK_opt (es := ixs (ids d.2.1)) (by rw [List.length_map]; exact g_ix_1 hs.n) ?_
    refine ixK_opt (es := ixs (ids d.2.2.1)) (by rw [List.length_map]; exact g_ix_2 hs.p) ?_
    refine ixK_opt (es := ixs (ids d.2.2.2.1)) (by rw [List.length_map]; exact g_ix_3 hs.s) ?_
    refine ixK_opt (es := ixs (ids d.2.2.2.2.1)) (by rw [List.length_map]; exact g_ix_4 hs.k) ?_
    refine callK_some (s := [(false, .int .i64)]) (y := formE d) ((g_form_at ..).trans (onlyT_ok hs _)) ?_
    refine ifQ (fun h => is (by unfold chkL; rw [if_neg h])) fun h1 => ?_
    refine callK_some (s := [(false, .int .i64)]) (y := nodesE d) ((g_cNodes_at ..).trans (onlyT_ok hs _)) ?_
    refine ifQ (fun h => is (by unfold chkL; rw [if_pos h1, if_neg h])) fun h2 => ?_
    refine callK_some (s := [(false, .int .i64)]) (y := bareE d.2.2.1) (cPartsL hs hp _) ?_
    refine ifQ (fun h => is (by unfold chkL; rw [if_pos h1, if_pos h2, if_neg h])) fun h3 => ?_
    refine callK_some (s := [(false, .int .i64)]) (y := firstE (seamE d) d.2.2.2.1) ((g_cSeams_at ..).trans (onlyT_ok hs _)) ?_
    refine ifQ (fun h => is (by unfold chkL; rw [if_pos h1, if_pos h2, if_pos h3, if_neg h])) fun h4 => ?_
    refine callK_some (s := [(false, .int .i64)]) (y := bareE d.2.2.2.2.1) (cPacksL hs hk) ?_
    refine ifQ (fun h => is (by unfold chkL; rw [if_pos h1, if_pos h2, if_pos h3, if_pos h4, if_neg h])) fun h5 => ?_
    refine callK_some (s := [(false, .int .i64)]) (y := firstE (needE d) d.2.2.2.2.2) ((g_cNeeds_at ..).trans (onlyT_ok hs _)) ?_
    exact is (by unfold chkL; rw [if_pos h1, if_pos h2, if_pos h3, if_pos h4, if_pos h5])
  · cases h
theorem chkL_long {d : TDesign} : (chkL d = 4) ↔ tooLong d = true := by
  have hform : formE d = 4 ↔ tooLong d = true := by
    unfold formE
    by_cases h : tooLong d = true
    · simp [h]
    · simp only [h, if_false]
      refine ⟨fun h' => ?_, fun h' => by cases h'⟩
      exfalso
      revert h'
      rw [if_neg (by simp)]
      split
      · decide
      · split <;> decide
  have hn : nodesE d ≠ 4 := by
    unfold nodesE
    split
    · split
      · decide
      · split <;> decide
    · rename_i h
      rcases firstE_cases (f := nodeE d) (l := d.2.1) with h' | ⟨a, _, h'⟩
      · exact absurd h' h
      · rw [h']; unfold nodeE; repeat' split
        all_goals decide
  have hs : firstE (seamE d) d.2.2.2.1 ≠ 4 := by
    rcases firstE_cases (f := seamE d) (l := d.2.2.2.1) with h' | ⟨a, _, h'⟩
    · rw [h']; decide
    · rw [h']; unfold seamE; repeat' split
      all_goals decide
  have hr : firstE (needE d) d.2.2.2.2.2 ≠ 4 := by
    rcases firstE_cases (f := needE d) (l := d.2.2.2.2.2) with h' | ⟨a, _, h'⟩
    · rw [h']; decide
    · rw [h']; unfold needE; repeat' split
      all_goals decide
  have hb : ∀ {α : Type} (l : List (ByteArray × α)), bareE l ≠ 4 := fun l => by unfold bareE; split <;> decide
  unfold chkL
  split
  · rename_i h0
    have : ¬ tooLong d = true := fun h => by rw [hform.2 h] at h0; cases h0
    refine ⟨fun h => ?_, fun h => absurd h this⟩
    exfalso
    repeat' split at h
    all_goals first
      | exact hr h
      | exact hb _ h
      | exact hs h
      | exact hn h
  · exact hform
/-! ### Nil slices deep within what is handed over -/
def T.deep : Nat → T → T
  | 0, t => t
  | n + 1, .sl _ rows => .sl false (rows.map fun r => r.map (T.deep n))
  | _ + 1, .v (.slice none 0 0) => .sl false []
  | _ + 1, .ne _ => .sl false []
  | n + 1, .agg cs => .agg (cs.map (T.deep n))
  | _ + 1, t => t
theorem RdT.deep {w : World} {own : Nat → Prop} : ∀ (n : Nat) {t : T} {v : Value}, RdT w own t v → RdT w own (T.deep n t) v := by
  intro n
  induction n with
  | zero => intro t v h; exact h
  | succ n ih =>
    intro t v h
    unfold T.deep
    split
    · rename_i e; cases e
    · rename_i n' f rows e
      cases e
      cases h with
      | slNil _ a cap hf hn => exact .slNil false a cap (by simp) hn
      | sl _ _ sz b o cap g h1 h2 h3 h4 h45 h5 h6 h7 h8 =>
        have e1 : (rows.map fun r => r.map (T.deep n)).length = rows.length := by simp
        rw [← e1]
        refine .sl false _ sz b o cap g (by rw [e1]; exact h1) (by rw [e1]; exact h2) (by simp) h4 h45 (fun r hr => ?_) h6 (fun i j hi hj => h7 i j (by rw [e1] at hi; exact hi) hj) (fun i j hi hj => ?_)
        · obtain ⟨r', hr', rfl⟩ := List.mem_map.1 hr
          rw [List.length_map]; exact h5 r' hr'
        · simp only [List.getElem_map]
          exact ih (h8 i j (by simpa using hi) (by simpa using hj))
    · rename_i e; cases e; cases h; exact .slNil false none 0 (by simp) (by simp)
    · rename_i e
      cases e
      cases h with
      | ne _ a cap hf => exact .slNil false (some a) cap (by simp) (by simp)
    · rename_i n' cs e
      cases e
      cases h with
      | agg _ vs h1 h2 => exact .agg _ vs (by simpa using h1) fun i hi => by simpa using ih (h2 i (by simpa using hi))
    · exact h
def gD {α : Type} (g : List T → Option α) (args : List T) : Option α := g (args.map (T.deep 4))
theorem PureFn.deep {P : Program} {f : FuncId} {g : List T → Option T} (h : PureFn P f g) : PureFn P f (gD g) := ⟨h.entry, fun w own args vs r hG ho ha hr => h.calls w own (args.map (T.deep 4)) vs r hG ho ⟨by simpa using ha.1, fun i hi => by
  have := (ha.2 i (by simpa using hi)).deep 4
  simpa using this⟩ hr⟩
noncomputable def g_chkD : List T → Option T := gD g_chkL
theorem fn_chkD : PureFn Tryz.prog 10 g_chkD := fn_chkL.deep
end Go.Pv
set_option linter.unusedSimpArgs false
set_option linter.unusedVariables false
set_option maxRecDepth 100000
namespace Go.Pv
open Go Go.Proofs
set_option maxRecDepth 100000
noncomputable def E_lawLong : Env := Env.of [(4000000022, .mark), (4000000023, .mark), (4000000024, .mark), (4000000025, .mark), (4000000026, .mark), (10, .pure g_chkD), (9, .pure g_awake17)]
def H_lawLong : FuncId → Hint := fun _ => noHint
theorem Eok_lawLong : EnvOk Tryz.prog E_lawLong := EnvOk.cons (x := .mark) trivial (EnvOk.cons (x := .mark) trivial (EnvOk.cons (x := .mark) trivial (EnvOk.cons (x := .mark) trivial (EnvOk.cons (x := .mark) trivial (EnvOk.cons (x := .pure g_chkD) fn_chkD (EnvOk.cons (x := .pure g_awake17) fn_awake17 (EnvOk.nil _)))))))
def F_lawLong (a0 : Int × Int × TVec) (R : T → Prop) : Prop :=
  reqK true
  (reqK
    (decide ((IntKind.i64.wrap a0.fst).tmod 400 = (IntKind.i64.wrap a0.fst).tmod 400) &&
          decide (0 ≤ (IntKind.i64.wrap a0.fst).tmod 400) &&
        decide ((IntKind.i64.wrap a0.fst).tmod 400 * (↑40 : Int) ≤ 140737488355328) &&
      decide ((IntKind.i64.wrap a0.fst).tmod 400 ≤ 140737488355328))
    (reqK true
      (reqK
        (decide ((IntKind.i64.wrap a0.snd.fst).tmod 400 = (IntKind.i64.wrap a0.snd.fst).tmod 400) &&
              decide (0 ≤ (IntKind.i64.wrap a0.snd.fst).tmod 400) &&
            decide ((IntKind.i64.wrap a0.snd.fst).tmod 400 * (↑208 : Int) ≤ 140737488355328) &&
          decide ((IntKind.i64.wrap a0.snd.fst).tmod 400 ≤ 140737488355328))
        (reqK true
          (reqK
            (decide ((IntKind.i64.wrap a0.snd.snd.fst).tmod 400 = (IntKind.i64.wrap a0.snd.snd.fst).tmod 400) &&
                  decide (0 ≤ (IntKind.i64.wrap a0.snd.snd.fst).tmod 400) &&
                decide ((IntKind.i64.wrap a0.snd.snd.fst).tmod 400 * (↑72 : Int) ≤ 140737488355328) &&
              decide ((IntKind.i64.wrap a0.snd.snd.fst).tmod 400 ≤ 140737488355328))
            (reqK true
              (reqK
                (decide
                        ((IntKind.i64.wrap a0.snd.snd.snd.fst).tmod 400 =
                          (IntKind.i64.wrap a0.snd.snd.snd.fst).tmod 400) &&
                      decide (0 ≤ (IntKind.i64.wrap a0.snd.snd.snd.fst).tmod 400) &&
                    decide ((IntKind.i64.wrap a0.snd.snd.snd.fst).tmod 400 * (↑88 : Int) ≤ 140737488355328) &&
                  decide ((IntKind.i64.wrap a0.snd.snd.snd.fst).tmod 400 ≤ 140737488355328))
                (reqK true
                  (reqK
                    (decide
                            ((IntKind.i64.wrap a0.snd.snd.snd.snd).tmod 400 =
                              (IntKind.i64.wrap a0.snd.snd.snd.snd).tmod 400) &&
                          decide (0 ≤ (IntKind.i64.wrap a0.snd.snd.snd.snd).tmod 400) &&
                        decide ((IntKind.i64.wrap a0.snd.snd.snd.snd).tmod 400 * (↑40 : Int) ≤ 140737488355328) &&
                      decide ((IntKind.i64.wrap a0.snd.snd.snd.snd).tmod 400 ≤ 140737488355328))
                    (iteP
                      (decide
                        (64 <
                          (↑(List.replicate ((IntKind.i64.wrap a0.fst).tmod 400).toNat
                                  (List.map T.v
                                    (Value.agg
                                          #[Value.string { data := #[] }, Value.int IntKind.i64 0,
                                            Value.string { data := #[] }]).cells.toList)).length :
                            Int)))
                      (callK [(false, Sy.int IntKind.i64)]
                        (g_chkD
                          [T.agg
                              [T.v (Value.string { data := #[72, 49] }),
                                T.sl false
                                  (List.replicate ((IntKind.i64.wrap a0.fst).tmod 400).toNat
                                    [T.v (Value.string { data := #[] }),
                                      T.v (Value.int IntKind.i64 0),
                                      T.v (Value.string { data := #[] })]),
                                T.sl false
                                  (List.replicate ((IntKind.i64.wrap a0.snd.fst).tmod 400).toNat
                                    [T.v (Value.string { data := #[] }),
                                      T.v (Value.int IntKind.i64 0),
                                      T.v (Value.int IntKind.i64 0),
                                      T.v (Value.string { data := #[] }),
                                      T.v (Value.string { data := #[] }),
                                      T.v (Value.int IntKind.i64 0), T.v (Value.slice none 0 0),
                                      T.v (Value.slice none 0 0), T.v (Value.string { data := #[] }),
                                      T.v (Value.int IntKind.i64 0),
                                      T.v (Value.int IntKind.i64 0),
                                      T.v (Value.int IntKind.i64 0),
                                      T.v (Value.int IntKind.i64 0),
                                      T.v (Value.int IntKind.i64 0),
                                      T.v (Value.int IntKind.i64 0),
                                      T.v (Value.int IntKind.i64 0),
                                      T.v (Value.int IntKind.i64 0),
                                      T.v (Value.int IntKind.i64 0)]),
                                T.sl false
                                  (List.replicate ((IntKind.i64.wrap a0.snd.snd.fst).tmod 400).toNat
                                    [T.v (Value.string { data := #[] }),
                                      T.v (Value.string { data := #[] }),
                                      T.v (Value.string { data := #[] }),
                                      T.v (Value.int IntKind.i64 0),
                                      T.v (Value.int IntKind.i64 0),
                                      T.v (Value.int IntKind.i64 0)]),
                                T.sl false
                                  (List.replicate ((IntKind.i64.wrap a0.snd.snd.snd.fst).tmod 400).toNat
                                    [T.v (Value.string { data := #[] }),
                                      T.v (Value.string { data := #[] }), T.v (Value.slice none 0 0),
                                      T.v (Value.int IntKind.i64 0), T.v (Value.slice none 0 0)]),
                                T.sl false
                                  (List.replicate ((IntKind.i64.wrap a0.snd.snd.snd.snd).tmod 400).toNat
                                    [T.v (Value.int IntKind.i64 0),
                                      T.v (Value.string { data := #[] }),
                                      T.v (Value.string { data := #[] })])],
                            T.agg [T.v (Value.slice none 0 0), T.v (Value.slice none 0 0)]])
                        fun (y0 : Int) =>
                        iteP (decide (decide (y0 = 4) = true))
                          (callK [(false, Sy.bool)] (g_awake17 []) fun (y1 : Bool) =>
                            R (T.v (Value.bool y1)))
                          (R (T.v (Value.bool false))))
                      (iteP
                        (decide
                          (256 <
                            (↑(List.replicate ((IntKind.i64.wrap a0.snd.fst).tmod 400).toNat
                                    (List.map T.v
                                      (Value.agg
                                            #[Value.string { data := #[] }, Value.int IntKind.i64 0,
                                              Value.int IntKind.i64 0, Value.string { data := #[] },
                                              Value.string { data := #[] }, Value.int IntKind.i64 0,
                                              Value.slice none 0 0, Value.slice none 0 0,
                                              Value.string { data := #[] }, Value.int IntKind.i64 0,
                                              Value.int IntKind.i64 0, Value.int IntKind.i64 0,
                                              Value.int IntKind.i64 0, Value.int IntKind.i64 0,
                                              Value.int IntKind.i64 0, Value.int IntKind.i64 0,
                                              Value.int IntKind.i64 0,
                                              Value.int IntKind.i64 0]).cells.toList)).length :
                              Int)))
                        (callK [(false, Sy.int IntKind.i64)]
                          (g_chkD
                            [T.agg
                                [T.v (Value.string { data := #[72, 49] }),
                                  T.sl false
                                    (List.replicate ((IntKind.i64.wrap a0.fst).tmod 400).toNat
                                      [T.v (Value.string { data := #[] }),
                                        T.v (Value.int IntKind.i64 0),
                                        T.v (Value.string { data := #[] })]),
                                  T.sl false
                                    (List.replicate ((IntKind.i64.wrap a0.snd.fst).tmod 400).toNat
                                      [T.v (Value.string { data := #[] }),
                                        T.v (Value.int IntKind.i64 0),
                                        T.v (Value.int IntKind.i64 0),
                                        T.v (Value.string { data := #[] }),
                                        T.v (Value.string { data := #[] }),
                                        T.v (Value.int IntKind.i64 0), T.v (Value.slice none 0 0),
                                        T.v (Value.slice none 0 0),
                                        T.v (Value.string { data := #[] }),
                                        T.v (Value.int IntKind.i64 0),
                                        T.v (Value.int IntKind.i64 0),
                                        T.v (Value.int IntKind.i64 0),
                                        T.v (Value.int IntKind.i64 0),
                                        T.v (Value.int IntKind.i64 0),
                                        T.v (Value.int IntKind.i64 0),
                                        T.v (Value.int IntKind.i64 0),
                                        T.v (Value.int IntKind.i64 0),
                                        T.v (Value.int IntKind.i64 0)]),
                                  T.sl false
                                    (List.replicate ((IntKind.i64.wrap a0.snd.snd.fst).tmod 400).toNat
                                      [T.v (Value.string { data := #[] }),
                                        T.v (Value.string { data := #[] }),
                                        T.v (Value.string { data := #[] }),
                                        T.v (Value.int IntKind.i64 0),
                                        T.v (Value.int IntKind.i64 0),
                                        T.v (Value.int IntKind.i64 0)]),
                                  T.sl false
                                    (List.replicate ((IntKind.i64.wrap a0.snd.snd.snd.fst).tmod 400).toNat
                                      [T.v (Value.string { data := #[] }),
                                        T.v (Value.string { data := #[] }),
                                        T.v (Value.slice none 0 0), T.v (Value.int IntKind.i64 0),
                                        T.v (Value.slice none 0 0)]),
                                  T.sl false
                                    (List.replicate ((IntKind.i64.wrap a0.snd.snd.snd.snd).tmod 400).toNat
                                      [T.v (Value.int IntKind.i64 0),
                                        T.v (Value.string { data := #[] }),
                                        T.v (Value.string { data := #[] })])],
                              T.agg [T.v (Value.slice none 0 0), T.v (Value.slice none 0 0)]])
                          fun (y2 : Int) =>
                          iteP (decide (decide (y2 = 4) = true))
                            (callK [(false, Sy.bool)] (g_awake17 []) fun (y3 : Bool) =>
                              R (T.v (Value.bool y3)))
                            (R (T.v (Value.bool false))))
                        (iteP
                          (decide
                            (256 <
                              (↑(List.replicate ((IntKind.i64.wrap a0.snd.snd.fst).tmod 400).toNat
                                      (List.map T.v
                                        (Value.agg
                                              #[Value.string { data := #[] }, Value.string { data := #[] },
                                                Value.string { data := #[] }, Value.int IntKind.i64 0,
                                                Value.int IntKind.i64 0,
                                                Value.int IntKind.i64 0]).cells.toList)).length :
                                Int)))
                          (callK [(false, Sy.int IntKind.i64)]
                            (g_chkD
                              [T.agg
                                  [T.v (Value.string { data := #[72, 49] }),
                                    T.sl false
                                      (List.replicate ((IntKind.i64.wrap a0.fst).tmod 400).toNat
                                        [T.v (Value.string { data := #[] }),
                                          T.v (Value.int IntKind.i64 0),
                                          T.v (Value.string { data := #[] })]),
                                    T.sl false
                                      (List.replicate ((IntKind.i64.wrap a0.snd.fst).tmod 400).toNat
                                        [T.v (Value.string { data := #[] }),
                                          T.v (Value.int IntKind.i64 0),
                                          T.v (Value.int IntKind.i64 0),
                                          T.v (Value.string { data := #[] }),
                                          T.v (Value.string { data := #[] }),
                                          T.v (Value.int IntKind.i64 0),
                                          T.v (Value.slice none 0 0), T.v (Value.slice none 0 0),
                                          T.v (Value.string { data := #[] }),
                                          T.v (Value.int IntKind.i64 0),
                                          T.v (Value.int IntKind.i64 0),
                                          T.v (Value.int IntKind.i64 0),
                                          T.v (Value.int IntKind.i64 0),
                                          T.v (Value.int IntKind.i64 0),
                                          T.v (Value.int IntKind.i64 0),
                                          T.v (Value.int IntKind.i64 0),
                                          T.v (Value.int IntKind.i64 0),
                                          T.v (Value.int IntKind.i64 0)]),
                                    T.sl false
                                      (List.replicate ((IntKind.i64.wrap a0.snd.snd.fst).tmod 400).toNat
                                        [T.v (Value.string { data := #[] }),
                                          T.v (Value.string { data := #[] }),
                                          T.v (Value.string { data := #[] }),
                                          T.v (Value.int IntKind.i64 0),
                                          T.v (Value.int IntKind.i64 0),
                                          T.v (Value.int IntKind.i64 0)]),
                                    T.sl false
                                      (List.replicate ((IntKind.i64.wrap a0.snd.snd.snd.fst).tmod 400).toNat
                                        [T.v (Value.string { data := #[] }),
                                          T.v (Value.string { data := #[] }),
                                          T.v (Value.slice none 0 0),
                                          T.v (Value.int IntKind.i64 0),
                                          T.v (Value.slice none 0 0)]),
                                    T.sl false
                                      (List.replicate ((IntKind.i64.wrap a0.snd.snd.snd.snd).tmod 400).toNat
                                        [T.v (Value.int IntKind.i64 0),
                                          T.v (Value.string { data := #[] }),
                                          T.v (Value.string { data := #[] })])],
                                T.agg [T.v (Value.slice none 0 0), T.v (Value.slice none 0 0)]])
                            fun (y4 : Int) =>
                            iteP (decide (decide (y4 = 4) = true))
                              (callK [(false, Sy.bool)] (g_awake17 []) fun (y5 : Bool) =>
                                R (T.v (Value.bool y5)))
                              (R (T.v (Value.bool false))))
                          (iteP
                            (decide
                              (64 <
                                (↑(List.replicate ((IntKind.i64.wrap a0.snd.snd.snd.fst).tmod 400).toNat
                                        (List.map T.v
                                          (Value.agg
                                                #[Value.string { data := #[] }, Value.string { data := #[] },
                                                  Value.slice none 0 0, Value.int IntKind.i64 0,
                                                  Value.slice none 0 0]).cells.toList)).length :
                                  Int)))
                            (callK [(false, Sy.int IntKind.i64)]
                              (g_chkD
                                [T.agg
                                    [T.v (Value.string { data := #[72, 49] }),
                                      T.sl false
                                        (List.replicate ((IntKind.i64.wrap a0.fst).tmod 400).toNat
                                          [T.v (Value.string { data := #[] }),
                                            T.v (Value.int IntKind.i64 0),
                                            T.v (Value.string { data := #[] })]),
                                      T.sl false
                                        (List.replicate ((IntKind.i64.wrap a0.snd.fst).tmod 400).toNat
                                          [T.v (Value.string { data := #[] }),
                                            T.v (Value.int IntKind.i64 0),
                                            T.v (Value.int IntKind.i64 0),
                                            T.v (Value.string { data := #[] }),
                                            T.v (Value.string { data := #[] }),
                                            T.v (Value.int IntKind.i64 0),
                                            T.v (Value.slice none 0 0), T.v (Value.slice none 0 0),
                                            T.v (Value.string { data := #[] }),
                                            T.v (Value.int IntKind.i64 0),
                                            T.v (Value.int IntKind.i64 0),
                                            T.v (Value.int IntKind.i64 0),
                                            T.v (Value.int IntKind.i64 0),
                                            T.v (Value.int IntKind.i64 0),
                                            T.v (Value.int IntKind.i64 0),
                                            T.v (Value.int IntKind.i64 0),
                                            T.v (Value.int IntKind.i64 0),
                                            T.v (Value.int IntKind.i64 0)]),
                                      T.sl false
                                        (List.replicate ((IntKind.i64.wrap a0.snd.snd.fst).tmod 400).toNat
                                          [T.v (Value.string { data := #[] }),
                                            T.v (Value.string { data := #[] }),
                                            T.v (Value.string { data := #[] }),
                                            T.v (Value.int IntKind.i64 0),
                                            T.v (Value.int IntKind.i64 0),
                                            T.v (Value.int IntKind.i64 0)]),
                                      T.sl false
                                        (List.replicate ((IntKind.i64.wrap a0.snd.snd.snd.fst).tmod 400).toNat
                                          [T.v (Value.string { data := #[] }),
                                            T.v (Value.string { data := #[] }),
                                            T.v (Value.slice none 0 0),
                                            T.v (Value.int IntKind.i64 0),
                                            T.v (Value.slice none 0 0)]),
                                      T.sl false
                                        (List.replicate ((IntKind.i64.wrap a0.snd.snd.snd.snd).tmod 400).toNat
                                          [T.v (Value.int IntKind.i64 0),
                                            T.v (Value.string { data := #[] }),
                                            T.v (Value.string { data := #[] })])],
                                  T.agg
                                    [T.v (Value.slice none 0 0), T.v (Value.slice none 0 0)]])
                              fun (y6 : Int) =>
                              iteP (decide (decide (y6 = 4) = true))
                                (callK [(false, Sy.bool)] (g_awake17 []) fun (y7 : Bool) =>
                                  R (T.v (Value.bool y7)))
                                (R (T.v (Value.bool false))))
                            (callK [(false, Sy.int IntKind.i64)]
                              (g_chkD
                                [T.agg
                                    [T.v (Value.string { data := #[72, 49] }),
                                      T.sl false
                                        (List.replicate ((IntKind.i64.wrap a0.fst).tmod 400).toNat
                                          [T.v (Value.string { data := #[] }),
                                            T.v (Value.int IntKind.i64 0),
                                            T.v (Value.string { data := #[] })]),
                                      T.sl false
                                        (List.replicate ((IntKind.i64.wrap a0.snd.fst).tmod 400).toNat
                                          [T.v (Value.string { data := #[] }),
                                            T.v (Value.int IntKind.i64 0),
                                            T.v (Value.int IntKind.i64 0),
                                            T.v (Value.string { data := #[] }),
                                            T.v (Value.string { data := #[] }),
                                            T.v (Value.int IntKind.i64 0),
                                            T.v (Value.slice none 0 0), T.v (Value.slice none 0 0),
                                            T.v (Value.string { data := #[] }),
                                            T.v (Value.int IntKind.i64 0),
                                            T.v (Value.int IntKind.i64 0),
                                            T.v (Value.int IntKind.i64 0),
                                            T.v (Value.int IntKind.i64 0),
                                            T.v (Value.int IntKind.i64 0),
                                            T.v (Value.int IntKind.i64 0),
                                            T.v (Value.int IntKind.i64 0),
                                            T.v (Value.int IntKind.i64 0),
                                            T.v (Value.int IntKind.i64 0)]),
                                      T.sl false
                                        (List.replicate ((IntKind.i64.wrap a0.snd.snd.fst).tmod 400).toNat
                                          [T.v (Value.string { data := #[] }),
                                            T.v (Value.string { data := #[] }),
                                            T.v (Value.string { data := #[] }),
                                            T.v (Value.int IntKind.i64 0),
                                            T.v (Value.int IntKind.i64 0),
                                            T.v (Value.int IntKind.i64 0)]),
                                      T.sl false
                                        (List.replicate ((IntKind.i64.wrap a0.snd.snd.snd.fst).tmod 400).toNat
                                          [T.v (Value.string { data := #[] }),
                                            T.v (Value.string { data := #[] }),
                                            T.v (Value.slice none 0 0),
                                            T.v (Value.int IntKind.i64 0),
                                            T.v (Value.slice none 0 0)]),
                                      T.sl false
                                        (List.replicate ((IntKind.i64.wrap a0.snd.snd.snd.snd).tmod 400).toNat
                                          [T.v (Value.int IntKind.i64 0),
                                            T.v (Value.string { data := #[] }),
                                            T.v (Value.string { data := #[] })])],
                                  T.agg
                                    [T.v (Value.slice none 0 0), T.v (Value.slice none 0 0)]])
                              fun (y8 : Int) =>
                              iteP
                                (decide
                                  (decide (y8 = 4) =
                                    decide
                                      (256 <
                                        (↑(List.replicate ((IntKind.i64.wrap a0.snd.snd.snd.snd).tmod 400).toNat
                                                (List.map T.v
                                                  (Value.agg
                                                        #[Value.int IntKind.i64 0,
                                                          Value.string { data := #[] },
                                                          Value.string { data := #[] }]).cells.toList)).length :
                                          Int))))
                                (callK [(false, Sy.bool)] (g_awake17 []) fun (y9 : Bool) =>
                                  R (T.v (Value.bool y9)))
                                (R (T.v (Value.bool false)))))))))))))))))
theorem F_lawLong_eq (a0 : Int × Int × TVec) (R : T → Prop) : sxTop stdC2 Tryz.prog E_lawLong H_lawLong 8 7 [encV true
    ((Sy.int IntKind.u16).pr
      ((Sy.int IntKind.u16).pr
        ((Sy.int IntKind.u16).pr ((Sy.int IntKind.u16).pr (Sy.int IntKind.u16)))))
    a0] R = F_lawLong a0 R := by kernel_rfl
abbrev s_lawLong : Sh := [(true, ((Sy.int IntKind.u16).pr ((Sy.int IntKind.u16).pr ((Sy.int IntKind.u16).pr ((Sy.int IntKind.u16).pr (Sy.int IntKind.u16))))))]
abbrev r_lawLong : Sh := [(false, Sy.bool)]
theorem r_lawLong_call (y : Sh.den r_lawLong) (K : Sh.den r_lawLong → Prop) : callK r_lawLong (some (Sh.enc r_lawLong y)) K = K y := callK_enc rfl y K

def kI (n : Int) : Nat := ((IntKind.i64.wrap n).tmod 400).toNat
def noNeed : TNeed := (0, ⟨#[]⟩, ⟨#[]⟩)
def dL (a b c d e : Nat) : TDesign := (⟨#[72, 49]⟩, List.replicate a noNode, List.replicate b noPart, List.replicate c noSeam, List.replicate d noPack, List.replicate e noNeed)
theorem dL_enc (a b c d e : Nat) : yDesign.enc (dL a b c d e) = [T.v (Value.string ⟨#[72, 49]⟩), T.sl false (List.replicate a (yNode.enc noNode)), T.sl false (List.replicate b (yPart.enc noPart)), T.sl false (List.replicate c (ySeam.enc noSeam)), T.sl false (List.replicate d (yPackage.enc noPack)), T.sl false (List.replicate e (yNeed.enc noNeed))] := by
  show [T.v (Value.string ⟨#[72, 49]⟩), T.sl false (List.map yNode.enc (List.replicate a noNode)), T.sl false (List.map yPart.enc (List.replicate b noPart)), T.sl false (List.map ySeam.enc (List.replicate c noSeam)), T.sl false (List.map yPackage.enc (List.replicate d noPack)), T.sl false (List.map yNeed.enc (List.replicate e noNeed))] = _
  rw [List.map_replicate, List.map_replicate, List.map_replicate, List.map_replicate, List.map_replicate]
theorem deep_rep (n k : Nat) (row : List T) : T.deep (n + 1) (T.sl false (List.replicate k row)) = T.sl false (List.replicate k (row.map (T.deep n))) := by
  show T.sl false (List.map (fun r => r.map (T.deep n)) (List.replicate k row)) = _
  rw [List.map_replicate]
theorem isId_nil : isId ⟨#[]⟩ = false := by kernel_rfl
theorem isName_H1 : isName ⟨#[72, 49]⟩ = true := by kernel_rfl
theorem bare_rep {α : Type} (k : Nat) (a : ByteArray × α) (h : a.1 = ⟨#[]⟩) : bare (List.replicate k a) = true := by
  cases k with
  | zero => rfl
  | succ k => simp only [List.replicate_succ, bare, h, isId_nil, Bool.not_false]
theorem chkD_at {a b c d e : Nat} (h : a ≤ 400 ∧ b ≤ 400 ∧ c ≤ 400 ∧ d ≤ 400 ∧ e ≤ 400) {r1 r2 r3 r4 r5 : List T} (e1 : r1.map (T.deep 2) = yNode.enc noNode) (e2 : r2.map (T.deep 2) = yPart.enc noPart) (e3 : r3.map (T.deep 2) = ySeam.enc noSeam) (e4 : r4.map (T.deep 2) = yPackage.enc noPack) (e5 : r5.map (T.deep 2) = yNeed.enc noNeed) :
    g_chkD [T.agg [T.v (Value.string ⟨#[72, 49]⟩), T.sl false (List.replicate a r1), T.sl false (List.replicate b r2), T.sl false (List.replicate c r3), T.sl false (List.replicate d r4), T.sl false (List.replicate e r5)], T.agg [T.v (Value.slice none 0 0), T.v (Value.slice none 0 0)]] = some (Sh.enc [(false, .int .i64)] (chkL (dL a b c d e))) := by
  unfold g_chkD gD
  have hargs : ([T.agg [T.v (Value.string ⟨#[72, 49]⟩), T.sl false (List.replicate a r1), T.sl false (List.replicate b r2), T.sl false (List.replicate c r3), T.sl false (List.replicate d r4), T.sl false (List.replicate e r5)], T.agg [T.v (Value.slice none 0 0), T.v (Value.slice none 0 0)]]).map (T.deep 4) = [encV true yDesign (dL a b c d e), encV true yMaterials ([], [])] := by
    show [T.agg [T.v (Value.string ⟨#[72, 49]⟩), T.deep 3 (T.sl false (List.replicate a r1)), T.deep 3 (T.sl false (List.replicate b r2)), T.deep 3 (T.sl false (List.replicate c r3)), T.deep 3 (T.sl false (List.replicate d r4)), T.deep 3 (T.sl false (List.replicate e r5))], T.agg [T.sl false [], T.sl false []]] = [T.agg (yDesign.enc (dL a b c d e)), _]
    rw [deep_rep, deep_rep, deep_rep, deep_rep, deep_rep, e1, e2, e3, e4, e5, dL_enc]
    rfl
  rw [hargs, g_chkL_at]
  unfold sp_chkL
  have hc : (smallB (dL a b c d e) && isName (dL a b c d e).1 && bare (dL a b c d e).2.2.1 && bare (dL a b c d e).2.2.2.2.1) = true := by
    simp only [Bool.and_eq_true]
    refine ⟨⟨⟨?_, isName_H1⟩, bare_rep _ _ rfl⟩, bare_rep _ _ rfl⟩
    rw [smallB_iff]
    constructor <;> (simp only [dL, List.length_replicate]; omega)
  dsimp only
  rw [hc]
  rfl
def okU (x : Int × Int × Int × Int × Int) : Bool := decide (0 ≤ x.1 ∧ x.1 < 65536) && decide (0 ≤ x.2.1 ∧ x.2.1 < 65536) && decide (0 ≤ x.2.2.1 ∧ x.2.2.1 < 65536) && decide (0 ≤ x.2.2.2.1 ∧ x.2.2.2.1 < 65536) && decide (0 ≤ x.2.2.2.2 ∧ x.2.2.2.2 < 65536)
def sp_lawLong (x : Int × Int × Int × Int × Int) : Option T := match okU x with
  | true => some (.v (.bool true))
  | false => none
noncomputable def g_lawLong : List T → Option (T) := gS s_lawLong sp_lawLong
theorem g_lawLong_at {a0 : Int × Int × TVec} : g_lawLong [T.agg
    [T.v (Value.int IntKind.u16 a0.fst), T.v (Value.int IntKind.u16 a0.snd.fst),
      T.v (Value.int IntKind.u16 a0.snd.snd.fst),
      T.v (Value.int IntKind.u16 a0.snd.snd.snd.fst),
      T.v (Value.int IntKind.u16 a0.snd.snd.snd.snd)]] = sp_lawLong (a0) := gS_enc (s := s_lawLong) rfl (a0) rfl
theorem g_lawLong_op {u0 u1 u2 u3 u4} : g_lawLong [T.agg
    [T.v (Value.int IntKind.u16 u0), T.v (Value.int IntKind.u16 u1),
      T.v (Value.int IntKind.u16 u2),
      T.v (Value.int IntKind.u16 u3),
      T.v (Value.int IntKind.u16 u4)]] = sp_lawLong ((u0, (u1, (u2, (u3, u4))))) := gS_enc (s := s_lawLong) rfl ((u0, (u1, (u2, (u3, u4))))) rfl
theorem of_lawLong (h : ∀ (a0 : Int × Int × TVec) (r : T), sp_lawLong (a0) = some r → BdSh s_lawLong (a0) → F_lawLong a0 (fun y => y = r)) : PureFn Tryz.prog 7 g_lawLong :=
  pureFn_S (E := E_lawLong) (Hs := H_lawLong) Eok_lawLong mixed' plain' (noHeap_of rfl) 8 ⟨_, _, Tryz.func7, rfl⟩ rfl fun x r h1 h2 => by
    let a0 := x
    rw [show Sh.encs s_lawLong (a0) = [encV true
    ((Sy.int IntKind.u16).pr
      ((Sy.int IntKind.u16).pr
        ((Sy.int IntKind.u16).pr ((Sy.int IntKind.u16).pr (Sy.int IntKind.u16)))))
    a0] from rfl, F_lawLong_eq]
    exact h a0 r h1 h2

theorem tm400 {n : Int} (h0 : 0 ≤ n) (h1 : n < 65536) : 0 ≤ (IntKind.i64.wrap n).tmod 400 ∧ (IntKind.i64.wrap n).tmod 400 < 400 ∧ kI n ≤ 400 ∧ ((kI n : Nat) : Int) = (IntKind.i64.wrap n).tmod 400 := by
  unfold kI
  rw [wrap_id n (by omega) (by omega), Int.tmod_eq_emod_of_nonneg h0]
  omega
theorem fn_lawLong : PureFn Tryz.prog 7 g_lawLong := of_lawLong fun x r h hb => by
  unfold sp_lawLong at h
  split at h
  · rename_i hu
    cases h
    simp only [okU, Bool.and_eq_true, decide_eq_true_eq] at hu
    obtain ⟨⟨⟨⟨⟨a0, a1⟩, ⟨b0, b1⟩⟩, ⟨c0, c1⟩⟩, ⟨d0, d1⟩⟩, ⟨e0, e1⟩⟩ := hu
    obtain ⟨p1, q1, s1, k1⟩ := tm400 a0 a1
    obtain ⟨p2, q2, s2, k2⟩ := tm400 b0 b1
    obtain ⟨p3, q3, s3, k3⟩ := tm400 c0 c1
    obtain ⟨p4, q4, s4, k4⟩ := tm400 d0 d1
    obtain ⟨p5, q5, s5, k5⟩ := tm400 e0 e1
    have call : ∀ {K : Int → Prop}, K (chkL (dL (kI x.1) (kI x.2.1) (kI x.2.2.1) (kI x.2.2.2.1) (kI x.2.2.2.2))) → callK [(false, Sy.int IntKind.i64)] (g_chkD _) K := fun {K} hK => callK_some (s := [(false, .int .i64)]) (chkD_at ⟨s1, s2, s3, s4, s5⟩ (r1 := (yNode.enc noNode)) (r2 := [T.v (Value.string { data := #[] }), T.v (Value.int IntKind.i64 0), T.v (Value.int IntKind.i64 0), T.v (Value.string { data := #[] }), T.v (Value.string { data := #[] }), T.v (Value.int IntKind.i64 0), T.v (Value.slice none 0 0), T.v (Value.slice none 0 0), T.v (Value.string { data := #[] }), T.v (Value.int IntKind.i64 0), T.v (Value.int IntKind.i64 0), T.v (Value.int IntKind.i64 0), T.v (Value.int IntKind.i64 0), T.v (Value.int IntKind.i64 0), T.v (Value.int IntKind.i64 0), T.v (Value.int IntKind.i64 0), T.v (Value.int IntKind.i64 0), T.v (Value.int IntKind.i64 0)]) (r3 := (ySeam.enc noSeam)) (r4 := [T.v (Value.string { data := #[] }), T.v (Value.string { data := #[] }), T.v (Value.slice none 0 0), T.v (Value.int IntKind.i64 0), T.v (Value.slice none 0 0)]) (r5 := (yNeed.enc noNeed)) rfl rfl rfl rfl rfl) hK
    have long : tooLong (dL (kI x.1) (kI x.2.1) (kI x.2.2.1) (kI x.2.2.2.1) (kI x.2.2.2.2)) = (decide (64 < kI x.1) || decide (256 < kI x.2.1) || decide (256 < kI x.2.2.1) || decide (64 < kI x.2.2.2.1) || decide (256 < kI x.2.2.2.2)) := by simp only [tooLong, dL, List.length_replicate]
    have hl := chkL_long (d := dL (kI x.1) (kI x.2.1) (kI x.2.2.1) (kI x.2.2.2.1) (kI x.2.2.2.2))
    rw [long] at hl
    simp only [Bool.or_eq_true, decide_eq_true_eq] at hl
    have yes : ∀ {Z : Prop}, (((((64 < kI x.1) ∨ (256 < kI x.2.1)) ∨ (256 < kI x.2.2.1)) ∨ (64 < kI x.2.2.2.1)) ∨ (256 < kI x.2.2.2.2)) → iteP (decide (decide (chkL (dL (kI x.1) (kI x.2.1) (kI x.2.2.1) (kI x.2.2.2.1) (kI x.2.2.2.2)) = 4) = true)) (callK [(false, Sy.bool)] (g_awake17 []) fun (y1 : Bool) => T.v (Value.bool y1) = T.v (Value.bool true)) Z := fun {Z} h => by
      rw [decide_eq_true (hl.2 h)]
      exact callK_some (s := [(false, .bool)]) (y := true) rfl rfl
    unfold F_lawLong
    rw [reqK_def, reqK_def, reqK_def, reqK_def, reqK_def, reqK_def, reqK_def, reqK_def, reqK_def, reqK_def]
    refine ⟨rfl, by simp; omega, rfl, by simp; omega, rfl, by simp; omega, rfl, by simp; omega, rfl, by simp; omega, ?_⟩
    refine ifP (fun h => call (yes ?_)) fun h1 => ?_
    · rw [List.length_replicate] at h; unfold kI; omega
    refine ifP (fun h => call (yes ?_)) fun h2 => ?_
    · rw [List.length_replicate] at h; unfold kI; omega
    refine ifP (fun h => call (yes ?_)) fun h3 => ?_
    · rw [List.length_replicate] at h; unfold kI; omega
    refine ifP (fun h => call (yes ?_)) fun h4 => ?_
    · rw [List.length_replicate] at h; unfold kI; omega
    rw [List.length_replicate] at h1 h2 h3 h4
    refine call ?_
    refine iteP_yes ?_ (callK_some (s := [(false, .bool)]) (y := true) rfl rfl)
    refine decide_eq_decide.2 ?_
    rw [hl, List.length_replicate]
    unfold kI
    omega
  · cases h
end Go.Pv
