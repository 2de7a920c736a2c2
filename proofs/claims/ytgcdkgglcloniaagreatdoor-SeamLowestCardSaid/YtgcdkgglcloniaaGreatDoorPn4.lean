/-
  Packages; equality of lists, shapes, parts and packages.
  Chapter 17: the indices of a design, walked.
  Chapter 17: rising, walked.
  Chapter 17: the tree's form, walked.
  Chapter 17: the tree's other methods where a design's elements are empty, and Check there.
-/
import Derived.Test.YtgcdkgglcloniaaGreatDoorPn1
import Derived.Test.YtgcdkgglcloniaaGreatDoorPkn
import Derived.Test.YtgcdkgglcloniaaGreatDoorPn3
import Derived.Test.YtgcdkgglcloniaaGreatDoorPkm
set_option linter.unusedSimpArgs false
set_option linter.unusedVariables false
set_option maxRecDepth 100000
namespace Go.Pv
open Go Go.Proofs

/-! ### Equality as a bool -/
def packOf (d : TDesign) (id : ByteArray) : Option TPackage := d.2.2.2.2.1.find? fun s => decide (s.1 = id)
def noPack : TPackage := (⟨#[]⟩, ⟨#[]⟩, [], 0, [])
end Go.Pv
set_option linter.unusedSimpArgs false
set_option linter.unusedVariables false
set_option maxRecDepth 100000
namespace Go.Pv
open Go Go.Proofs
theorem ifP {p : Prop} {i : Decidable p} {A B : Prop} (h1 : p → A) (h2 : ¬ p → B) : iteP (@decide p i) A B := by
  by_cases h : p
  · rw [decide_eq_true h]; exact h1 h
  · rw [decide_eq_false h]; exact h2 h
theorem ifQ {p : Prop} {i : Decidable p} {A B : Prop} (h1 : ¬ p → A) (h2 : p → B) : iteP (!(@decide p i)) A B := by
  by_cases h : p
  · rw [decide_eq_true h]; exact h2 h
  · rw [decide_eq_false h]; exact h1 h
theorem ifB {c : Bool} {A B : Prop} (h1 : c = true → A) (h2 : c = false → B) : iteP c A B := by cases c with
  | true => exact h1 rfl
  | false => exact h2 rfl
theorem ifNB {c : Bool} {A B : Prop} (h1 : c = false → A) (h2 : c = true → B) : iteP (!c) A B := by cases c with
  | true => exact h2 rfl
  | false => exact h1 rfl
def memB (l : List ByteArray) (x : ByteArray) : Bool := l.any fun y => decide (y = x)
theorem memB_iff {l : List ByteArray} {x : ByteArray} : memB l x = true ↔ x ∈ l := by
  simp only [memB, List.any_eq_true, decide_eq_true_eq]
  exact ⟨fun ⟨y, h, e⟩ => e ▸ h, fun h => ⟨x, h, rfl⟩⟩
def Sy.tl : Sy → Sy
  | .pr _ b => b
  | x => x
/-- The index of a list of identifiers. -/
def ixOf : List ByteArray → Nat → List (ByteArray × Int) → List (ByteArray × Int)
  | [], _, es => es
  | a :: l, i, es => ixOf l (i + 1) (match getL es a with
    | none => insL es a (i : Int)
    | some _ => es)
def ixs (l : List ByteArray) : List (ByteArray × Int) := ixOf l 0 []
def ids {α : Type} (l : List (ByteArray × α)) : List ByteArray := l.map fun x => x.1
def onlyL {α β : Type} (l : List α) (r : β) : Option β := match decide (l.length ≤ 140737488355328) with
  | true => some r
  | false => none
theorem onlyL_of {α β : Type} {l : List α} {t r : β} (h : onlyL l t = some r) : l.length ≤ 140737488355328 ∧ r = t := by
  unfold onlyL at h; split at h
  · rename_i hc
    cases h; exact ⟨of_decide_eq_true hc, rfl⟩
  · cases h
theorem onlyL_ok {α β : Type} {l : List α} (t : β) (h : l.length ≤ 140737488355328) : onlyL l t = some t := by unfold onlyL; rw [decide_eq_true h]
theorem encM_eS (es : List (ByteArray × Int)) : List.map (fun (e : Value × D) => (e.fst, unPD e.snd)) (List.map (encE Sy.str false (Sy.int IntKind.i64)) es) = encM es := by
  rw [List.map_map]; rfl
theorem ix_loop {r : Sy} {l : List (ByteArray × r.den)} (hl : l.length ≤ 140737488355328) :
  decMK Sy.str false (Sy.int IntKind.i64) [] fun (y0 : List (ByteArray × Int)) =>
  loopK (List (ByteArray × Int) × Int × PUnit)
    (fun (X1 : List (ByteArray × Int) × Int × PUnit → Prop) (s2 : List (ByteArray × Int) × Int × PUnit) =>
      iteP (decide (s2.snd.fst < (↑l.length : Int)))
        (rowsK (.pr .str r) (List.map (Sy.pr .str r).enc l) s2.snd.fst fun (y3 : ByteArray × r.den) =>
          findK TypeDesc.string (Value.string y3.fst)
            (List.map (encE Sy.str false (Sy.int IntKind.i64)) s2.fst) false
            (Sy.int IntKind.i64)
            (rowsK (.pr .str r) (List.map (Sy.pr .str r).enc l) s2.snd.fst fun (y7 : ByteArray × r.den) =>
              optK (Option (Nat × D))
                (findD TypeDesc.string (Value.string y7.fst)
                  (List.map (encE Sy.str false (Sy.int IntKind.i64)) s2.fst) 0)
                fun (y8 : Option (Nat × D)) =>
                decMK Sy.str false (Sy.int IntKind.i64)
                  (setEnt (List.map (encE Sy.str false (Sy.int IntKind.i64)) s2.fst) y8
                    (Value.string y7.fst) (D.p (T.v (Value.int IntKind.i64 s2.snd.fst))))
                  fun (y9 : List (ByteArray × Int)) => X1 (y9, IntKind.i64.wrap (s2.snd.fst + 1), ()))
            fun (i4 : Nat) (y5 : Int) =>
            decMK Sy.str false (Sy.int IntKind.i64)
              (List.map (encE Sy.str false (Sy.int IntKind.i64)) s2.fst)
              fun (y6 : List (ByteArray × Int)) => X1 (y6, IntKind.i64.wrap (s2.snd.fst + 1), ()))
        (reqK
          ((List.map (encE Sy.str false (Sy.int IntKind.i64)) s2.fst).all
            fun (e : Value × D) => isPD e.snd)
          ((fun y => y = T.mp (encM (ixs (ids l))))
            (T.mp
              (List.map (fun (e : Value × D) => (e.fst, unPD e.snd))
                (List.map (encE Sy.str false (Sy.int IntKind.i64)) s2.fst))))))
    (y0, 0, ()) := by
  refine decMK_eS (r := .int .i64) rfl [] _ ?_
  refine loopK_ix l.length (fun k s => ∃ es, s = (es, (k : Int), ()) ∧ ixOf (ids (l.drop k)) k es = ixs (ids l)) ⟨[], rfl, rfl⟩ ?_
  rintro X k s hk ⟨es, rfl, hes⟩ hX
  dsimp only
  have hw : IntKind.i64.wrap ((k : Int) + 1) = ((k + 1 : Nat) : Int) := wrap_id _ (by omega) (by omega)
  by_cases hlt : k < l.length
  · refine iteP_yes (by omega) ?_
    rw [rowsK_at (r := .pr .str r) hlt]
    have hd : ids (l.drop k) = l[k].1 :: ids (l.drop (k + 1)) := by rw [List.drop_eq_getElem_cons hlt]; rfl
    rw [hd] at hes
    simp only [ixOf] at hes
    refine findK_S (r := .int .i64) (fun hno => ?_) (fun i v hv => ?_)
    · rw [hno] at hes
      rw [rowsK_at (r := .pr .str r) hlt]
      exact ins_S (r := .int .i64) rfl (v := (k : Int)) (hX _ hlt ⟨_, by rw [hw], hes⟩)
    · rw [hv] at hes
      exact decMK_eS (r := .int .i64) rfl es _ (hX _ hlt ⟨_, by rw [hw], hes⟩)
  · have : k = l.length := by omega
    subst this
    refine iteP_no (by omega) ?_
    rw [List.drop_length] at hes
    refine ⟨?_, ?_⟩
    · rw [List.all_eq_true]
      intro e he
      obtain ⟨x, _, rfl⟩ := List.mem_map.1 he
      rfl
    · show T.mp _ = _
      rw [encM_eS]
      rw [← hes]
      rfl
set_option maxRecDepth 100000
def A_ix1 (a0 : TDesign) : List T := [T.v (Value.int IntKind.i64 (a0.2.1.length : Int)), T.fn 58 [] [T.ref [T.ref (yDesign.enc a0)]]]
noncomputable def E_ix1 : Env := Env.of []
def H_ix1 : FuncId → Hint := fun f => match f == 57 with | true => ⟨fun r => match r == 3 with | true => .inv [.map 0 .str false (.int .i64), .val 12 false (.int .i64)] | false => .none, fun _ _ => none, fun _ => none⟩ | false => noHint
theorem Eok_ix1 : EnvOk Tryz.prog E_ix1 := EnvOk.nil _
def F_ix1 (a0 : TDesign) (R : T → Prop) : Prop :=
 decMK Sy.str false (Sy.int IntKind.i64) [] fun (y0 : List (ByteArray × Int)) =>
 loopK (List (ByteArray × Int) × Int × PUnit)
 (fun (X1 : List (ByteArray × Int) × Int × PUnit → Prop) (s2 : List (ByteArray × Int) × Int × PUnit) =>
 iteP (decide (s2.snd.fst < (↑a0.snd.fst.length : Int)))
 (rowsK yNode (List.map yNode.enc a0.snd.fst) s2.snd.fst fun (y3 : TNode) =>
 findK TypeDesc.string (Value.string y3.fst)
 (List.map (encE Sy.str false (Sy.int IntKind.i64)) s2.fst) false
 (Sy.int IntKind.i64)
 (rowsK yNode (List.map yNode.enc a0.snd.fst) s2.snd.fst fun (y7 : TNode) =>
 optK (Option (Nat × D))
 (findD TypeDesc.string (Value.string y7.fst)
 (List.map (encE Sy.str false (Sy.int IntKind.i64)) s2.fst) 0)
 fun (y8 : Option (Nat × D)) =>
 decMK Sy.str false (Sy.int IntKind.i64)
 (setEnt (List.map (encE Sy.str false (Sy.int IntKind.i64)) s2.fst) y8
 (Value.string y7.fst) (D.p (T.v (Value.int IntKind.i64 s2.snd.fst))))
 fun (y9 : List (ByteArray × Int)) => X1 (y9, IntKind.i64.wrap (s2.snd.fst + 1), ()))
 fun (i4 : Nat) (y5 : Int) =>
 decMK Sy.str false (Sy.int IntKind.i64)
 (List.map (encE Sy.str false (Sy.int IntKind.i64)) s2.fst)
 fun (y6 : List (ByteArray × Int)) => X1 (y6, IntKind.i64.wrap (s2.snd.fst + 1), ()))
 (reqK
 ((List.map (encE Sy.str false (Sy.int IntKind.i64)) s2.fst).all
 fun (e : Value × D) => isPD e.snd)
 (R
 (T.mp
 (List.map (fun (e : Value × D) => (e.fst, unPD e.snd))
 (List.map (encE Sy.str false (Sy.int IntKind.i64)) s2.fst))))))
 (y0, 0, ())
theorem F_ix1_eq (a0 : TDesign) (R : T → Prop) : sxTopN stdC2 Tryz.prog E_ix1 H_ix1 8 57 (A_ix1 a0) R = F_ix1 a0 R := by kernel_rfl
abbrev r_ix1 : Sh := [(false, Sy.any)]
theorem r_ix1_call (y : Sh.den r_ix1) (K : Sh.den r_ix1 → Prop) : callK r_ix1 (some (Sh.enc r_ix1 y)) K = K y := callK_enc rfl y K

def sp_ix1 (d : TDesign) : Option (List (ByteArray × Int)) := onlyL d.2.1 (ixs (ids d.2.1))
theorem A_ix1_inj (d d' : TDesign) (h : A_ix1 d = A_ix1 d') : d = d' := by
  unfold A_ix1 at h
  simp only [List.cons.injEq, T.fn.injEq, T.ref.injEq, and_true, true_and] at h
  exact Sy.enc_inj yDesign _ _ h.2
noncomputable def g_ix1 : List T → Option (List (ByteArray × Int)) := gA (fun (x : TDesign) => A_ix1 x) sp_ix1
theorem g_ix1_at (a0 : TDesign) : g_ix1 (A_ix1 a0) = sp_ix1 a0 := gA_at (A := (fun (x : TDesign) => A_ix1 x)) A_ix1_inj a0
theorem of_ix1 (h : ∀ (a0 : TDesign) (r : List (ByteArray × Int)), sp_ix1 a0 = some r → (∀ t ∈ A_ix1 a0, Bd t) → F_ix1 a0 (fun y => y = .mp (encM r))) : NewFn Tryz.prog 57 (gMap g_ix1) :=
  fmapFn_A (E := E_ix1) (Hs := H_ix1) Eok_ix1 mixed' plain' (noHeap_of rfl) 8 ⟨_, _, Tryz.func57, rfl⟩ fun x r h1 h2 => by
    rw [F_ix1_eq]
    exact h x r h1 h2

theorem fn_ix1 : NewFn Tryz.prog 57 (gMap g_ix1) := of_ix1 fun d r h hb => by
  obtain ⟨hl, rfl⟩ := onlyL_of h
  unfold F_ix1
  exact ix_loop (r := yNode.tl) (l := d.2.1) hl
set_option maxRecDepth 100000
def A_ix2 (a0 : TDesign) : List T := [T.v (Value.int IntKind.i64 (a0.2.2.1.length : Int)), T.fn 59 [] [T.ref [T.ref (yDesign.enc a0)]]]
noncomputable def E_ix2 : Env := Env.of []
def H_ix2 : FuncId → Hint := fun f => match f == 57 with | true => ⟨fun r => match r == 3 with | true => .inv [.map 0 .str false (.int .i64), .val 12 false (.int .i64)] | false => .none, fun _ _ => none, fun _ => none⟩ | false => noHint
theorem Eok_ix2 : EnvOk Tryz.prog E_ix2 := EnvOk.nil _
def F_ix2 (a0 : TDesign) (R : T → Prop) : Prop :=
 decMK Sy.str false (Sy.int IntKind.i64) [] fun (y0 : List (ByteArray × Int)) =>
 loopK (List (ByteArray × Int) × Int × PUnit)
 (fun (X1 : List (ByteArray × Int) × Int × PUnit → Prop) (s2 : List (ByteArray × Int) × Int × PUnit) =>
 iteP (decide (s2.snd.fst < (↑a0.snd.snd.fst.length : Int)))
 (rowsK yPart (List.map yPart.enc a0.snd.snd.fst) s2.snd.fst fun (y3 : TPart) =>
 findK TypeDesc.string (Value.string y3.fst)
 (List.map (encE Sy.str false (Sy.int IntKind.i64)) s2.fst) false
 (Sy.int IntKind.i64)
 (rowsK yPart (List.map yPart.enc a0.snd.snd.fst) s2.snd.fst fun (y7 : TPart) =>
 optK (Option (Nat × D))
 (findD TypeDesc.string (Value.string y7.fst)
 (List.map (encE Sy.str false (Sy.int IntKind.i64)) s2.fst) 0)
 fun (y8 : Option (Nat × D)) =>
 decMK Sy.str false (Sy.int IntKind.i64)
 (setEnt (List.map (encE Sy.str false (Sy.int IntKind.i64)) s2.fst) y8
 (Value.string y7.fst) (D.p (T.v (Value.int IntKind.i64 s2.snd.fst))))
 fun (y9 : List (ByteArray × Int)) => X1 (y9, IntKind.i64.wrap (s2.snd.fst + 1), ()))
 fun (i4 : Nat) (y5 : Int) =>
 decMK Sy.str false (Sy.int IntKind.i64)
 (List.map (encE Sy.str false (Sy.int IntKind.i64)) s2.fst)
 fun (y6 : List (ByteArray × Int)) => X1 (y6, IntKind.i64.wrap (s2.snd.fst + 1), ()))
 (reqK
 ((List.map (encE Sy.str false (Sy.int IntKind.i64)) s2.fst).all
 fun (e : Value × D) => isPD e.snd)
 (R
 (T.mp
 (List.map (fun (e : Value × D) => (e.fst, unPD e.snd))
 (List.map (encE Sy.str false (Sy.int IntKind.i64)) s2.fst))))))
 (y0, 0, ())
theorem F_ix2_eq (a0 : TDesign) (R : T → Prop) : sxTopN stdC2 Tryz.prog E_ix2 H_ix2 8 57 (A_ix2 a0) R = F_ix2 a0 R := by kernel_rfl
abbrev r_ix2 : Sh := [(false, Sy.any)]
theorem r_ix2_call (y : Sh.den r_ix2) (K : Sh.den r_ix2 → Prop) : callK r_ix2 (some (Sh.enc r_ix2 y)) K = K y := callK_enc rfl y K

def sp_ix2 (d : TDesign) : Option (List (ByteArray × Int)) := onlyL d.2.2.1 (ixs (ids d.2.2.1))
theorem A_ix2_inj (d d' : TDesign) (h : A_ix2 d = A_ix2 d') : d = d' := by
  unfold A_ix2 at h
  simp only [List.cons.injEq, T.fn.injEq, T.ref.injEq, and_true, true_and] at h
  exact Sy.enc_inj yDesign _ _ h.2
noncomputable def g_ix2 : List T → Option (List (ByteArray × Int)) := gA (fun (x : TDesign) => A_ix2 x) sp_ix2
theorem g_ix2_at (a0 : TDesign) : g_ix2 (A_ix2 a0) = sp_ix2 a0 := gA_at (A := (fun (x : TDesign) => A_ix2 x)) A_ix2_inj a0
theorem of_ix2 (h : ∀ (a0 : TDesign) (r : List (ByteArray × Int)), sp_ix2 a0 = some r → (∀ t ∈ A_ix2 a0, Bd t) → F_ix2 a0 (fun y => y = .mp (encM r))) : NewFn Tryz.prog 57 (gMap g_ix2) :=
  fmapFn_A (E := E_ix2) (Hs := H_ix2) Eok_ix2 mixed' plain' (noHeap_of rfl) 8 ⟨_, _, Tryz.func57, rfl⟩ fun x r h1 h2 => by
    rw [F_ix2_eq]
    exact h x r h1 h2

theorem fn_ix2 : NewFn Tryz.prog 57 (gMap g_ix2) := of_ix2 fun d r h hb => by
  obtain ⟨hl, rfl⟩ := onlyL_of h
  unfold F_ix2
  exact ix_loop (r := yPart.tl) (l := d.2.2.1) hl
set_option maxRecDepth 100000
def A_ix3 (a0 : TDesign) : List T := [T.v (Value.int IntKind.i64 (a0.2.2.2.1.length : Int)), T.fn 60 [] [T.ref [T.ref (yDesign.enc a0)]]]
noncomputable def E_ix3 : Env := Env.of []
def H_ix3 : FuncId → Hint := fun f => match f == 57 with | true => ⟨fun r => match r == 3 with | true => .inv [.map 0 .str false (.int .i64), .val 12 false (.int .i64)] | false => .none, fun _ _ => none, fun _ => none⟩ | false => noHint
theorem Eok_ix3 : EnvOk Tryz.prog E_ix3 := EnvOk.nil _
def F_ix3 (a0 : TDesign) (R : T → Prop) : Prop :=
 decMK Sy.str false (Sy.int IntKind.i64) [] fun (y0 : List (ByteArray × Int)) =>
 loopK (List (ByteArray × Int) × Int × PUnit)
 (fun (X1 : List (ByteArray × Int) × Int × PUnit → Prop) (s2 : List (ByteArray × Int) × Int × PUnit) =>
 iteP (decide (s2.snd.fst < (↑a0.snd.snd.snd.fst.length : Int)))
 (rowsK ySeam (List.map ySeam.enc a0.snd.snd.snd.fst) s2.snd.fst fun (y3 : TSeam) =>
 findK TypeDesc.string (Value.string y3.fst)
 (List.map (encE Sy.str false (Sy.int IntKind.i64)) s2.fst) false
 (Sy.int IntKind.i64)
 (rowsK ySeam (List.map ySeam.enc a0.snd.snd.snd.fst) s2.snd.fst fun (y7 : TSeam) =>
 optK (Option (Nat × D))
 (findD TypeDesc.string (Value.string y7.fst)
 (List.map (encE Sy.str false (Sy.int IntKind.i64)) s2.fst) 0)
 fun (y8 : Option (Nat × D)) =>
 decMK Sy.str false (Sy.int IntKind.i64)
 (setEnt (List.map (encE Sy.str false (Sy.int IntKind.i64)) s2.fst) y8
 (Value.string y7.fst) (D.p (T.v (Value.int IntKind.i64 s2.snd.fst))))
 fun (y9 : List (ByteArray × Int)) => X1 (y9, IntKind.i64.wrap (s2.snd.fst + 1), ()))
 fun (i4 : Nat) (y5 : Int) =>
 decMK Sy.str false (Sy.int IntKind.i64)
 (List.map (encE Sy.str false (Sy.int IntKind.i64)) s2.fst)
 fun (y6 : List (ByteArray × Int)) => X1 (y6, IntKind.i64.wrap (s2.snd.fst + 1), ()))
 (reqK
 ((List.map (encE Sy.str false (Sy.int IntKind.i64)) s2.fst).all
 fun (e : Value × D) => isPD e.snd)
 (R
 (T.mp
 (List.map (fun (e : Value × D) => (e.fst, unPD e.snd))
 (List.map (encE Sy.str false (Sy.int IntKind.i64)) s2.fst))))))
 (y0, 0, ())
theorem F_ix3_eq (a0 : TDesign) (R : T → Prop) : sxTopN stdC2 Tryz.prog E_ix3 H_ix3 8 57 (A_ix3 a0) R = F_ix3 a0 R := by kernel_rfl
abbrev r_ix3 : Sh := [(false, Sy.any)]
theorem r_ix3_call (y : Sh.den r_ix3) (K : Sh.den r_ix3 → Prop) : callK r_ix3 (some (Sh.enc r_ix3 y)) K = K y := callK_enc rfl y K

def sp_ix3 (d : TDesign) : Option (List (ByteArray × Int)) := onlyL d.2.2.2.1 (ixs (ids d.2.2.2.1))
theorem A_ix3_inj (d d' : TDesign) (h : A_ix3 d = A_ix3 d') : d = d' := by
  unfold A_ix3 at h
  simp only [List.cons.injEq, T.fn.injEq, T.ref.injEq, and_true, true_and] at h
  exact Sy.enc_inj yDesign _ _ h.2
noncomputable def g_ix3 : List T → Option (List (ByteArray × Int)) := gA (fun (x : TDesign) => A_ix3 x) sp_ix3
theorem g_ix3_at (a0 : TDesign) : g_ix3 (A_ix3 a0) = sp_ix3 a0 := gA_at (A := (fun (x : TDesign) => A_ix3 x)) A_ix3_inj a0
theorem of_ix3 (h : ∀ (a0 : TDesign) (r : List (ByteArray × Int)), sp_ix3 a0 = some r → (∀ t ∈ A_ix3 a0, Bd t) → F_ix3 a0 (fun y => y = .mp (encM r))) : NewFn Tryz.prog 57 (gMap g_ix3) :=
  fmapFn_A (E := E_ix3) (Hs := H_ix3) Eok_ix3 mixed' plain' (noHeap_of rfl) 8 ⟨_, _, Tryz.func57, rfl⟩ fun x r h1 h2 => by
    rw [F_ix3_eq]
    exact h x r h1 h2

theorem fn_ix3 : NewFn Tryz.prog 57 (gMap g_ix3) := of_ix3 fun d r h hb => by
  obtain ⟨hl, rfl⟩ := onlyL_of h
  unfold F_ix3
  exact ix_loop (r := ySeam.tl) (l := d.2.2.2.1) hl
set_option maxRecDepth 100000
def A_ix4 (a0 : TDesign) : List T := [T.v (Value.int IntKind.i64 (a0.2.2.2.2.1.length : Int)), T.fn 61 [] [T.ref [T.ref (yDesign.enc a0)]]]
noncomputable def E_ix4 : Env := Env.of []
def H_ix4 : FuncId → Hint := fun f => match f == 57 with | true => ⟨fun r => match r == 3 with | true => .inv [.map 0 .str false (.int .i64), .val 12 false (.int .i64)] | false => .none, fun _ _ => none, fun _ => none⟩ | false => noHint
theorem Eok_ix4 : EnvOk Tryz.prog E_ix4 := EnvOk.nil _
def F_ix4 (a0 : TDesign) (R : T → Prop) : Prop :=
 decMK Sy.str false (Sy.int IntKind.i64) [] fun (y0 : List (ByteArray × Int)) =>
 loopK (List (ByteArray × Int) × Int × PUnit)
 (fun (X1 : List (ByteArray × Int) × Int × PUnit → Prop) (s2 : List (ByteArray × Int) × Int × PUnit) =>
 iteP (decide (s2.snd.fst < (↑a0.snd.snd.snd.snd.fst.length : Int)))
 (rowsK yPackage (List.map yPackage.enc a0.snd.snd.snd.snd.fst) s2.snd.fst
 fun (y3 : TPackage) =>
 findK TypeDesc.string (Value.string y3.fst)
 (List.map (encE Sy.str false (Sy.int IntKind.i64)) s2.fst) false
 (Sy.int IntKind.i64)
 (rowsK yPackage (List.map yPackage.enc a0.snd.snd.snd.snd.fst) s2.snd.fst
 fun (y7 : TPackage) =>
 optK (Option (Nat × D))
 (findD TypeDesc.string (Value.string y7.fst)
 (List.map (encE Sy.str false (Sy.int IntKind.i64)) s2.fst) 0)
 fun (y8 : Option (Nat × D)) =>
 decMK Sy.str false (Sy.int IntKind.i64)
 (setEnt (List.map (encE Sy.str false (Sy.int IntKind.i64)) s2.fst) y8
 (Value.string y7.fst) (D.p (T.v (Value.int IntKind.i64 s2.snd.fst))))
 fun (y9 : List (ByteArray × Int)) => X1 (y9, IntKind.i64.wrap (s2.snd.fst + 1), ()))
 fun (i4 : Nat) (y5 : Int) =>
 decMK Sy.str false (Sy.int IntKind.i64)
 (List.map (encE Sy.str false (Sy.int IntKind.i64)) s2.fst)
 fun (y6 : List (ByteArray × Int)) => X1 (y6, IntKind.i64.wrap (s2.snd.fst + 1), ()))
 (reqK
 ((List.map (encE Sy.str false (Sy.int IntKind.i64)) s2.fst).all
 fun (e : Value × D) => isPD e.snd)
 (R
 (T.mp
 (List.map (fun (e : Value × D) => (e.fst, unPD e.snd))
 (List.map (encE Sy.str false (Sy.int IntKind.i64)) s2.fst))))))
 (y0, 0, ())
theorem F_ix4_eq (a0 : TDesign) (R : T → Prop) : sxTopN stdC2 Tryz.prog E_ix4 H_ix4 8 57 (A_ix4 a0) R = F_ix4 a0 R := by kernel_rfl
abbrev r_ix4 : Sh := [(false, Sy.any)]
theorem r_ix4_call (y : Sh.den r_ix4) (K : Sh.den r_ix4 → Prop) : callK r_ix4 (some (Sh.enc r_ix4 y)) K = K y := callK_enc rfl y K

def sp_ix4 (d : TDesign) : Option (List (ByteArray × Int)) := onlyL d.2.2.2.2.1 (ixs (ids d.2.2.2.2.1))
theorem A_ix4_inj (d d' : TDesign) (h : A_ix4 d = A_ix4 d') : d = d' := by
  unfold A_ix4 at h
  simp only [List.cons.injEq, T.fn.injEq, T.ref.injEq, and_true, true_and] at h
  exact Sy.enc_inj yDesign _ _ h.2
noncomputable def g_ix4 : List T → Option (List (ByteArray × Int)) := gA (fun (x : TDesign) => A_ix4 x) sp_ix4
theorem g_ix4_at (a0 : TDesign) : g_ix4 (A_ix4 a0) = sp_ix4 a0 := gA_at (A := (fun (x : TDesign) => A_ix4 x)) A_ix4_inj a0
theorem of_ix4 (h : ∀ (a0 : TDesign) (r : List (ByteArray × Int)), sp_ix4 a0 = some r → (∀ t ∈ A_ix4 a0, Bd t) → F_ix4 a0 (fun y => y = .mp (encM r))) : NewFn Tryz.prog 57 (gMap g_ix4) :=
  fmapFn_A (E := E_ix4) (Hs := H_ix4) Eok_ix4 mixed' plain' (noHeap_of rfl) 8 ⟨_, _, Tryz.func57, rfl⟩ fun x r h1 h2 => by
    rw [F_ix4_eq]
    exact h x r h1 h2

theorem fn_ix4 : NewFn Tryz.prog 57 (gMap g_ix4) := of_ix4 fun d r h hb => by
  obtain ⟨hl, rfl⟩ := onlyL_of h
  unfold F_ix4
  exact ix_loop (r := yPackage.tl) (l := d.2.2.2.2.1) hl
end Go.Pv
set_option linter.unusedSimpArgs false
set_option linter.unusedVariables false
set_option maxRecDepth 100000
namespace Go.Pv
open Go Go.Proofs
/-- The first of two functions that is defined. -/
def orG {α : Type} (g1 g2 : List T → Option α) (a : List T) : Option α := match g1 a with
  | some r => some r
  | none => g2 a
theorem orG_l {α : Type} {g1 g2 : List T → Option α} {a : List T} {r : α} (h : g1 a = some r) : orG g1 g2 a = some r := by unfold orG; rw [h]
theorem orG_r {α : Type} {g1 g2 : List T → Option α} {a : List T} (h : g1 a = none) : orG g1 g2 a = g2 a := by unfold orG; rw [h]
theorem orG_cases {α : Type} {g1 g2 : List T → Option α} {a : List T} {r : α} (h : orG g1 g2 a = some r) : g1 a = some r ∨ g2 a = some r := by
  unfold orG at h
  split at h
  · rename_i r' h1; cases h; exact .inl h1
  · exact .inr h
theorem PureFn.or {P : Program} {f : FuncId} {g1 g2 : List T → Option T} (h1 : PureFn P f g1) (h2 : PureFn P f g2) : PureFn P f (orG g1 g2) := ⟨h1.entry, fun w own args vs r hG ho ha hr => by
  rcases orG_cases hr with h | h
  · exact h1.calls w own args vs r hG ho ha h
  · exact h2.calls w own args vs r hG ho ha h⟩
theorem NewFn.orM {P : Program} {f : FuncId} {g1 g2 : List T → Option (List (ByteArray × Int))} (h1 : NewFn P f (gMap g1)) (h2 : NewFn P f (gMap g2)) : NewFn P f (gMap (orG g1 g2)) := ⟨h1.entry, fun w own args vs r hG ho ha hr => by
  simp only [gMap, Option.map_eq_some_iff] at hr
  obtain ⟨es, h, rfl⟩ := hr
  rcases orG_cases h with h | h
  · exact h1.calls w own args vs _ hG ho ha (by simp [gMap, h])
  · exact h2.calls w own args vs _ hG ho ha (by simp [gMap, h])⟩
noncomputable def g_ix : List T → Option (List (ByteArray × Int)) := orG g_ix1 (orG g_ix2 (orG g_ix3 g_ix4))
theorem fn_ix : NewFn Tryz.prog 57 (gMap g_ix) := .orM fn_ix1 (.orM fn_ix2 (.orM fn_ix3 fn_ix4))
theorem gA_none {α X : Type} {A : X → List T} {sp : X → Option α} {args : List T} (h : ∀ x, args ≠ A x) : gA A sp args = none := by
  unfold gA; rw [dif_neg]; rintro ⟨x, hx⟩; exact h x hx
/-- Strings ascend. -/
def asc : List ByteArray → Bool
  | a :: b :: l => !(sless b a || decide (b = a)) && asc (b :: l)
  | _ => true
theorem asc_step {l : List ByteArray} {k : Nat} (h : k + 1 < l.length) : asc (l.drop k) = (!(sless l[k + 1] l[k] || decide (l[k + 1] = l[k])) && asc (l.drop (k + 1))) := by
  rw [List.drop_eq_getElem_cons (show k < l.length by omega), List.drop_eq_getElem_cons h, asc]
theorem asc_end {l : List ByteArray} {k : Nat} (h : l.length ≤ k + 1) : asc (l.drop k) = true := by
  rcases Nat.lt_or_ge k l.length with h1 | h1
  · rw [List.drop_eq_getElem_cons h1, List.drop_eq_nil_of_le h]; rfl
  · rw [List.drop_eq_nil_of_le h1]; rfl
theorem ri_loop {r : Sy} {p : r.den → ByteArray} {l : List r.den} (hl : l.length ≤ 140737488355328) {R : T → Prop} (hR : R (T.v (Value.bool (asc (l.map p))))) :
  loopK (Int × PUnit)
  (fun (X0 : Int × PUnit → Prop) (s1 : Int × PUnit) =>
    iteP (decide (s1.fst < (↑l.length : Int)))
      (rowsK r (List.map r.enc l) s1.fst fun (y2 : r.den) =>
        rowsK r (List.map r.enc l) (IntKind.i64.wrap (s1.fst - 1))
          fun (y3 : r.den) =>
          iteP (sless (p y2) (p y3) || decide (p y2 = p y3)) (R (T.v (Value.bool false)))
            (X0 (IntKind.i64.wrap (s1.fst + 1), ())))
      (R (T.v (Value.bool true))))
  (1, ()) := by
  refine loopK_ix l.length (fun k s => s = (((k + 1 : Nat) : Int), ()) ∧ asc (l.map p) = asc ((l.map p).drop k)) ⟨rfl, by rw [List.drop_zero]⟩ ?_
  rintro X k s hk ⟨rfl, he⟩ hX
  dsimp only
  have hw : IntKind.i64.wrap (((k + 1 : Nat) : Int) + 1) = ((k + 1 + 1 : Nat) : Int) := wrap_id _ (by omega) (by omega)
  have hw1 : IntKind.i64.wrap (((k + 1 : Nat) : Int) - 1) = ((k : Nat) : Int) := by rw [wrap_id _ (by omega) (by omega)]; omega
  by_cases hlt : k + 1 < l.length
  · refine iteP_yes (by omega) ?_
    rw [rowsK_at hlt, hw1, rowsK_at (show k < l.length by omega)]
    rw [asc_step (by rw [List.length_map]; exact hlt)] at he
    rw [List.getElem_map, List.getElem_map] at he
    cases hc : (sless (p l[k + 1]) (p l[k]) || decide (p l[k + 1] = p l[k])) with
    | true =>
      rw [iteP_t]
      rw [hc, Bool.not_true, Bool.false_and] at he
      rwa [he] at hR
    | false =>
      rw [iteP_f]
      rw [hc, Bool.not_false, Bool.true_and] at he
      exact hX _ (by omega) ⟨by rw [hw], he⟩
  · refine iteP_no (by omega) ?_
    rw [asc_end (by rw [List.length_map]; omega)] at he
    rwa [he] at hR
set_option maxRecDepth 100000
def A_ri5 (a0 : List ByteArray) : List T := [T.v (Value.int IntKind.i64 (a0.length : Int)), T.fn 89 [] [T.ref [T.sl false (List.map Sy.str.enc a0)]]]
noncomputable def E_ri5 : Env := Env.of []
def H_ri5 : FuncId → Hint := fun f => match f == 62 with | true => ⟨fun r => match r == 2 with | true => .inv [.val 5 false (.int .i64)] | false => .none, fun _ _ => none, fun _ => none⟩ | false => noHint
theorem Eok_ri5 : EnvOk Tryz.prog E_ri5 := EnvOk.nil _
def F_ri5 (a0 : List ByteArray) (R : T → Prop) : Prop :=
 loopK (Int × PUnit)
 (fun (X0 : Int × PUnit → Prop) (s1 : Int × PUnit) =>
 iteP (decide (s1.fst < (↑a0.length : Int)))
 (rowsK Sy.str (List.map Sy.str.enc a0) s1.fst fun (y2 : ByteArray) =>
 rowsK Sy.str (List.map Sy.str.enc a0) (IntKind.i64.wrap (s1.fst - 1))
 fun (y3 : ByteArray) =>
 iteP (sless y2 y3 || decide (y2 = y3)) (R (T.v (Value.bool false)))
 (X0 (IntKind.i64.wrap (s1.fst + 1), ())))
 (R (T.v (Value.bool true))))
 (1, ())
theorem F_ri5_eq (a0 : List ByteArray) (R : T → Prop) : sxTop stdC2 Tryz.prog E_ri5 H_ri5 8 62 (A_ri5 a0) R = F_ri5 a0 R := by kernel_rfl
abbrev r_ri5 : Sh := [(false, Sy.bool)]
theorem r_ri5_call (y : Sh.den r_ri5) (K : Sh.den r_ri5 → Prop) : callK r_ri5 (some (Sh.enc r_ri5 y)) K = K y := callK_enc rfl y K

def sp_ri5 (l : List ByteArray) : Option T := onlyL l (T.v (Value.bool (asc l)))
theorem A_ri5_inj (d d' : List ByteArray) (h : A_ri5 d = A_ri5 d') : d = d' := by
  unfold A_ri5 at h
  simp only [List.cons.injEq, T.fn.injEq, T.ref.injEq, and_true, true_and, T.sl.injEq] at h
  exact map_inj (Sy.enc_inj .str) h.2
noncomputable def g_ri5 : List T → Option (T) := gA (fun (x : List ByteArray) => A_ri5 x) sp_ri5
theorem g_ri5_at (a0 : List ByteArray) : g_ri5 (A_ri5 a0) = sp_ri5 a0 := gA_at (A := (fun (x : List ByteArray) => A_ri5 x)) A_ri5_inj a0
theorem of_ri5 (h : ∀ (a0 : List ByteArray) (r : T), sp_ri5 a0 = some r → (∀ t ∈ A_ri5 a0, Bd t) → F_ri5 a0 (fun y => y = r)) : PureFn Tryz.prog 62 g_ri5 :=
  pureFn_A (E := E_ri5) (Hs := H_ri5) Eok_ri5 mixed' plain' (noHeap_of rfl) 8 ⟨_, _, Tryz.func62, rfl⟩ fun x r h1 h2 => by
    rw [F_ri5_eq]
    exact h x r h1 h2

theorem fn_ri5 : PureFn Tryz.prog 62 g_ri5 := of_ri5 fun l r h hb => by
  obtain ⟨hl, rfl⟩ := onlyL_of h
  unfold F_ri5
  exact ri_loop (r := .str) (p := fun y => y) (R := fun y => y = T.v (Value.bool (asc l))) hl (by simp)
set_option maxRecDepth 100000
def A_ri1 (a0 : TDesign) : List T := [T.v (Value.int IntKind.i64 (a0.2.1.length : Int)), T.fn 63 [] [T.ref [T.ref (yDesign.enc a0)]]]
noncomputable def E_ri1 : Env := Env.of []
def H_ri1 : FuncId → Hint := fun f => match f == 62 with | true => ⟨fun r => match r == 2 with | true => .inv [.val 5 false (.int .i64)] | false => .none, fun _ _ => none, fun _ => none⟩ | false => noHint
theorem Eok_ri1 : EnvOk Tryz.prog E_ri1 := EnvOk.nil _
def F_ri1 (a0 : TDesign) (R : T → Prop) : Prop :=
 loopK (Int × PUnit)
 (fun (X0 : Int × PUnit → Prop) (s1 : Int × PUnit) =>
 iteP (decide (s1.fst < (↑a0.snd.fst.length : Int)))
 (rowsK yNode (List.map yNode.enc a0.snd.fst) s1.fst fun (y2 : TNode) =>
 rowsK yNode (List.map yNode.enc a0.snd.fst) (IntKind.i64.wrap (s1.fst - 1))
 fun (y3 : TNode) =>
 iteP (sless y2.fst y3.fst || decide (y2.fst = y3.fst)) (R (T.v (Value.bool false)))
 (X0 (IntKind.i64.wrap (s1.fst + 1), ())))
 (R (T.v (Value.bool true))))
 (1, ())
theorem F_ri1_eq (a0 : TDesign) (R : T → Prop) : sxTop stdC2 Tryz.prog E_ri1 H_ri1 8 62 (A_ri1 a0) R = F_ri1 a0 R := by kernel_rfl
abbrev r_ri1 : Sh := [(false, Sy.bool)]
theorem r_ri1_call (y : Sh.den r_ri1) (K : Sh.den r_ri1 → Prop) : callK r_ri1 (some (Sh.enc r_ri1 y)) K = K y := callK_enc rfl y K

def sp_ri1 (d : TDesign) : Option T := onlyL d.2.1 (T.v (Value.bool (asc (ids d.2.1))))
theorem A_ri1_inj (d d' : TDesign) (h : A_ri1 d = A_ri1 d') : d = d' := by
  unfold A_ri1 at h
  simp only [List.cons.injEq, T.fn.injEq, T.ref.injEq, and_true, true_and] at h
  exact Sy.enc_inj yDesign _ _ h.2
noncomputable def g_ri1 : List T → Option (T) := gA (fun (x : TDesign) => A_ri1 x) sp_ri1
theorem g_ri1_at (a0 : TDesign) : g_ri1 (A_ri1 a0) = sp_ri1 a0 := gA_at (A := (fun (x : TDesign) => A_ri1 x)) A_ri1_inj a0
theorem of_ri1 (h : ∀ (a0 : TDesign) (r : T), sp_ri1 a0 = some r → (∀ t ∈ A_ri1 a0, Bd t) → F_ri1 a0 (fun y => y = r)) : PureFn Tryz.prog 62 g_ri1 :=
  pureFn_A (E := E_ri1) (Hs := H_ri1) Eok_ri1 mixed' plain' (noHeap_of rfl) 8 ⟨_, _, Tryz.func62, rfl⟩ fun x r h1 h2 => by
    rw [F_ri1_eq]
    exact h x r h1 h2

theorem fn_ri1 : PureFn Tryz.prog 62 g_ri1 := of_ri1 fun d r h hb => by
  obtain ⟨hl, rfl⟩ := onlyL_of h
  unfold F_ri1
  exact ri_loop (r := yNode) (p := fun y => y.1) (R := fun y => y = T.v (Value.bool (asc (ids d.2.1)))) hl rfl
set_option maxRecDepth 100000
def A_ri2 (a0 : TDesign) : List T := [T.v (Value.int IntKind.i64 (a0.2.2.1.length : Int)), T.fn 64 [] [T.ref [T.ref (yDesign.enc a0)]]]
noncomputable def E_ri2 : Env := Env.of []
def H_ri2 : FuncId → Hint := fun f => match f == 62 with | true => ⟨fun r => match r == 2 with | true => .inv [.val 5 false (.int .i64)] | false => .none, fun _ _ => none, fun _ => none⟩ | false => noHint
theorem Eok_ri2 : EnvOk Tryz.prog E_ri2 := EnvOk.nil _
def F_ri2 (a0 : TDesign) (R : T → Prop) : Prop :=
 loopK (Int × PUnit)
 (fun (X0 : Int × PUnit → Prop) (s1 : Int × PUnit) =>
 iteP (decide (s1.fst < (↑a0.snd.snd.fst.length : Int)))
 (rowsK yPart (List.map yPart.enc a0.snd.snd.fst) s1.fst fun (y2 : TPart) =>
 rowsK yPart (List.map yPart.enc a0.snd.snd.fst) (IntKind.i64.wrap (s1.fst - 1))
 fun (y3 : TPart) =>
 iteP (sless y2.fst y3.fst || decide (y2.fst = y3.fst)) (R (T.v (Value.bool false)))
 (X0 (IntKind.i64.wrap (s1.fst + 1), ())))
 (R (T.v (Value.bool true))))
 (1, ())
theorem F_ri2_eq (a0 : TDesign) (R : T → Prop) : sxTop stdC2 Tryz.prog E_ri2 H_ri2 8 62 (A_ri2 a0) R = F_ri2 a0 R := by kernel_rfl
abbrev r_ri2 : Sh := [(false, Sy.bool)]
theorem r_ri2_call (y : Sh.den r_ri2) (K : Sh.den r_ri2 → Prop) : callK r_ri2 (some (Sh.enc r_ri2 y)) K = K y := callK_enc rfl y K

def sp_ri2 (d : TDesign) : Option T := onlyL d.2.2.1 (T.v (Value.bool (asc (ids d.2.2.1))))
theorem A_ri2_inj (d d' : TDesign) (h : A_ri2 d = A_ri2 d') : d = d' := by
  unfold A_ri2 at h
  simp only [List.cons.injEq, T.fn.injEq, T.ref.injEq, and_true, true_and] at h
  exact Sy.enc_inj yDesign _ _ h.2
noncomputable def g_ri2 : List T → Option (T) := gA (fun (x : TDesign) => A_ri2 x) sp_ri2
theorem g_ri2_at (a0 : TDesign) : g_ri2 (A_ri2 a0) = sp_ri2 a0 := gA_at (A := (fun (x : TDesign) => A_ri2 x)) A_ri2_inj a0
theorem of_ri2 (h : ∀ (a0 : TDesign) (r : T), sp_ri2 a0 = some r → (∀ t ∈ A_ri2 a0, Bd t) → F_ri2 a0 (fun y => y = r)) : PureFn Tryz.prog 62 g_ri2 :=
  pureFn_A (E := E_ri2) (Hs := H_ri2) Eok_ri2 mixed' plain' (noHeap_of rfl) 8 ⟨_, _, Tryz.func62, rfl⟩ fun x r h1 h2 => by
    rw [F_ri2_eq]
    exact h x r h1 h2

theorem fn_ri2 : PureFn Tryz.prog 62 g_ri2 := of_ri2 fun d r h hb => by
  obtain ⟨hl, rfl⟩ := onlyL_of h
  unfold F_ri2
  exact ri_loop (r := yPart) (p := fun y => y.1) (R := fun y => y = T.v (Value.bool (asc (ids d.2.2.1)))) hl rfl
set_option maxRecDepth 100000
def A_ri3 (a0 : TDesign) : List T := [T.v (Value.int IntKind.i64 (a0.2.2.2.1.length : Int)), T.fn 65 [] [T.ref [T.ref (yDesign.enc a0)]]]
noncomputable def E_ri3 : Env := Env.of []
def H_ri3 : FuncId → Hint := fun f => match f == 62 with | true => ⟨fun r => match r == 2 with | true => .inv [.val 5 false (.int .i64)] | false => .none, fun _ _ => none, fun _ => none⟩ | false => noHint
theorem Eok_ri3 : EnvOk Tryz.prog E_ri3 := EnvOk.nil _
def F_ri3 (a0 : TDesign) (R : T → Prop) : Prop :=
 loopK (Int × PUnit)
 (fun (X0 : Int × PUnit → Prop) (s1 : Int × PUnit) =>
 iteP (decide (s1.fst < (↑a0.snd.snd.snd.fst.length : Int)))
 (rowsK ySeam (List.map ySeam.enc a0.snd.snd.snd.fst) s1.fst fun (y2 : TSeam) =>
 rowsK ySeam (List.map ySeam.enc a0.snd.snd.snd.fst) (IntKind.i64.wrap (s1.fst - 1))
 fun (y3 : TSeam) =>
 iteP (sless y2.fst y3.fst || decide (y2.fst = y3.fst)) (R (T.v (Value.bool false)))
 (X0 (IntKind.i64.wrap (s1.fst + 1), ())))
 (R (T.v (Value.bool true))))
 (1, ())
theorem F_ri3_eq (a0 : TDesign) (R : T → Prop) : sxTop stdC2 Tryz.prog E_ri3 H_ri3 8 62 (A_ri3 a0) R = F_ri3 a0 R := by kernel_rfl
abbrev r_ri3 : Sh := [(false, Sy.bool)]
theorem r_ri3_call (y : Sh.den r_ri3) (K : Sh.den r_ri3 → Prop) : callK r_ri3 (some (Sh.enc r_ri3 y)) K = K y := callK_enc rfl y K

def sp_ri3 (d : TDesign) : Option T := onlyL d.2.2.2.1 (T.v (Value.bool (asc (ids d.2.2.2.1))))
theorem A_ri3_inj (d d' : TDesign) (h : A_ri3 d = A_ri3 d') : d = d' := by
  unfold A_ri3 at h
  simp only [List.cons.injEq, T.fn.injEq, T.ref.injEq, and_true, true_and] at h
  exact Sy.enc_inj yDesign _ _ h.2
noncomputable def g_ri3 : List T → Option (T) := gA (fun (x : TDesign) => A_ri3 x) sp_ri3
theorem g_ri3_at (a0 : TDesign) : g_ri3 (A_ri3 a0) = sp_ri3 a0 := gA_at (A := (fun (x : TDesign) => A_ri3 x)) A_ri3_inj a0
theorem of_ri3 (h : ∀ (a0 : TDesign) (r : T), sp_ri3 a0 = some r → (∀ t ∈ A_ri3 a0, Bd t) → F_ri3 a0 (fun y => y = r)) : PureFn Tryz.prog 62 g_ri3 :=
  pureFn_A (E := E_ri3) (Hs := H_ri3) Eok_ri3 mixed' plain' (noHeap_of rfl) 8 ⟨_, _, Tryz.func62, rfl⟩ fun x r h1 h2 => by
    rw [F_ri3_eq]
    exact h x r h1 h2

theorem fn_ri3 : PureFn Tryz.prog 62 g_ri3 := of_ri3 fun d r h hb => by
  obtain ⟨hl, rfl⟩ := onlyL_of h
  unfold F_ri3
  exact ri_loop (r := ySeam) (p := fun y => y.1) (R := fun y => y = T.v (Value.bool (asc (ids d.2.2.2.1)))) hl rfl
set_option maxRecDepth 100000
def A_ri4 (a0 : TDesign) : List T := [T.v (Value.int IntKind.i64 (a0.2.2.2.2.1.length : Int)), T.fn 66 [] [T.ref [T.ref (yDesign.enc a0)]]]
noncomputable def E_ri4 : Env := Env.of []
def H_ri4 : FuncId → Hint := fun f => match f == 62 with | true => ⟨fun r => match r == 2 with | true => .inv [.val 5 false (.int .i64)] | false => .none, fun _ _ => none, fun _ => none⟩ | false => noHint
theorem Eok_ri4 : EnvOk Tryz.prog E_ri4 := EnvOk.nil _
def F_ri4 (a0 : TDesign) (R : T → Prop) : Prop :=
 loopK (Int × PUnit)
 (fun (X0 : Int × PUnit → Prop) (s1 : Int × PUnit) =>
 iteP (decide (s1.fst < (↑a0.snd.snd.snd.snd.fst.length : Int)))
 (rowsK yPackage (List.map yPackage.enc a0.snd.snd.snd.snd.fst) s1.fst
 fun (y2 : TPackage) =>
 rowsK yPackage (List.map yPackage.enc a0.snd.snd.snd.snd.fst)
 (IntKind.i64.wrap (s1.fst - 1)) fun (y3 : TPackage) =>
 iteP (sless y2.fst y3.fst || decide (y2.fst = y3.fst)) (R (T.v (Value.bool false)))
 (X0 (IntKind.i64.wrap (s1.fst + 1), ())))
 (R (T.v (Value.bool true))))
 (1, ())
theorem F_ri4_eq (a0 : TDesign) (R : T → Prop) : sxTop stdC2 Tryz.prog E_ri4 H_ri4 8 62 (A_ri4 a0) R = F_ri4 a0 R := by kernel_rfl
abbrev r_ri4 : Sh := [(false, Sy.bool)]
theorem r_ri4_call (y : Sh.den r_ri4) (K : Sh.den r_ri4 → Prop) : callK r_ri4 (some (Sh.enc r_ri4 y)) K = K y := callK_enc rfl y K

def sp_ri4 (d : TDesign) : Option T := onlyL d.2.2.2.2.1 (T.v (Value.bool (asc (ids d.2.2.2.2.1))))
theorem A_ri4_inj (d d' : TDesign) (h : A_ri4 d = A_ri4 d') : d = d' := by
  unfold A_ri4 at h
  simp only [List.cons.injEq, T.fn.injEq, T.ref.injEq, and_true, true_and] at h
  exact Sy.enc_inj yDesign _ _ h.2
noncomputable def g_ri4 : List T → Option (T) := gA (fun (x : TDesign) => A_ri4 x) sp_ri4
theorem g_ri4_at (a0 : TDesign) : g_ri4 (A_ri4 a0) = sp_ri4 a0 := gA_at (A := (fun (x : TDesign) => A_ri4 x)) A_ri4_inj a0
theorem of_ri4 (h : ∀ (a0 : TDesign) (r : T), sp_ri4 a0 = some r → (∀ t ∈ A_ri4 a0, Bd t) → F_ri4 a0 (fun y => y = r)) : PureFn Tryz.prog 62 g_ri4 :=
  pureFn_A (E := E_ri4) (Hs := H_ri4) Eok_ri4 mixed' plain' (noHeap_of rfl) 8 ⟨_, _, Tryz.func62, rfl⟩ fun x r h1 h2 => by
    rw [F_ri4_eq]
    exact h x r h1 h2

theorem fn_ri4 : PureFn Tryz.prog 62 g_ri4 := of_ri4 fun d r h hb => by
  obtain ⟨hl, rfl⟩ := onlyL_of h
  unfold F_ri4
  exact ri_loop (r := yPackage) (p := fun y => y.1) (R := fun y => y = T.v (Value.bool (asc (ids d.2.2.2.2.1)))) hl rfl
noncomputable def g_ri : List T → Option T := orG g_ri1 (orG g_ri2 (orG g_ri3 (orG g_ri4 g_ri5)))
theorem fn_ri : PureFn Tryz.prog 62 g_ri := .or fn_ri1 (.or fn_ri2 (.or fn_ri3 (.or fn_ri4 fn_ri5)))
/-! Which of them speaks. -/
theorem g_ix_1 {d : TDesign} (h : d.2.1.length ≤ 140737488355328) : g_ix (A_ix1 d) = some (ixs (ids d.2.1)) := by
  have h1 : g_ix1 (A_ix1 d) = some (ixs (ids d.2.1)) := by rw [g_ix1_at]; exact onlyL_ok _ h
  exact (orG_l h1)
theorem g_ri_1 {d : TDesign} (h : d.2.1.length ≤ 140737488355328) : g_ri (A_ri1 d) = some (T.v (Value.bool (asc (ids d.2.1)))) := by
  have h1 : g_ri1 (A_ri1 d) = some (T.v (Value.bool (asc (ids d.2.1)))) := by rw [g_ri1_at]; exact onlyL_ok _ h
  exact (orG_l h1)
theorem g_ix_2 {d : TDesign} (h : d.2.2.1.length ≤ 140737488355328) : g_ix (A_ix2 d) = some (ixs (ids d.2.2.1)) := by
  have h1 : g_ix2 (A_ix2 d) = some (ixs (ids d.2.2.1)) := by rw [g_ix2_at]; exact onlyL_ok _ h
  exact ((orG_r (gA_none fun x h => by simp [A_ix1, A_ix2] at h)).trans (orG_l h1))
theorem g_ri_2 {d : TDesign} (h : d.2.2.1.length ≤ 140737488355328) : g_ri (A_ri2 d) = some (T.v (Value.bool (asc (ids d.2.2.1)))) := by
  have h1 : g_ri2 (A_ri2 d) = some (T.v (Value.bool (asc (ids d.2.2.1)))) := by rw [g_ri2_at]; exact onlyL_ok _ h
  exact ((orG_r (gA_none fun x h => by simp [A_ri1, A_ri2] at h)).trans (orG_l h1))
theorem g_ix_3 {d : TDesign} (h : d.2.2.2.1.length ≤ 140737488355328) : g_ix (A_ix3 d) = some (ixs (ids d.2.2.2.1)) := by
  have h1 : g_ix3 (A_ix3 d) = some (ixs (ids d.2.2.2.1)) := by rw [g_ix3_at]; exact onlyL_ok _ h
  exact ((orG_r (gA_none fun x h => by simp [A_ix1, A_ix3] at h)).trans ((orG_r (gA_none fun x h => by simp [A_ix2, A_ix3] at h)).trans (orG_l h1)))
theorem g_ri_3 {d : TDesign} (h : d.2.2.2.1.length ≤ 140737488355328) : g_ri (A_ri3 d) = some (T.v (Value.bool (asc (ids d.2.2.2.1)))) := by
  have h1 : g_ri3 (A_ri3 d) = some (T.v (Value.bool (asc (ids d.2.2.2.1)))) := by rw [g_ri3_at]; exact onlyL_ok _ h
  exact ((orG_r (gA_none fun x h => by simp [A_ri1, A_ri3] at h)).trans ((orG_r (gA_none fun x h => by simp [A_ri2, A_ri3] at h)).trans (orG_l h1)))
theorem g_ix_4 {d : TDesign} (h : d.2.2.2.2.1.length ≤ 140737488355328) : g_ix (A_ix4 d) = some (ixs (ids d.2.2.2.2.1)) := by
  have h1 : g_ix4 (A_ix4 d) = some (ixs (ids d.2.2.2.2.1)) := by rw [g_ix4_at]; exact onlyL_ok _ h
  exact ((orG_r (gA_none fun x h => by simp [A_ix1, A_ix4] at h)).trans ((orG_r (gA_none fun x h => by simp [A_ix2, A_ix4] at h)).trans ((orG_r (gA_none fun x h => by simp [A_ix3, A_ix4] at h)).trans h1)))
theorem g_ri_4 {d : TDesign} (h : d.2.2.2.2.1.length ≤ 140737488355328) : g_ri (A_ri4 d) = some (T.v (Value.bool (asc (ids d.2.2.2.2.1)))) := by
  have h1 : g_ri4 (A_ri4 d) = some (T.v (Value.bool (asc (ids d.2.2.2.2.1)))) := by rw [g_ri4_at]; exact onlyL_ok _ h
  exact ((orG_r (gA_none fun x h => by simp [A_ri1, A_ri4] at h)).trans ((orG_r (gA_none fun x h => by simp [A_ri2, A_ri4] at h)).trans ((orG_r (gA_none fun x h => by simp [A_ri3, A_ri4] at h)).trans (orG_l h1))))
theorem g_ri_5 {l : List ByteArray} (h : l.length ≤ 140737488355328) : g_ri (A_ri5 l) = some (T.v (Value.bool (asc l))) := by
  have h1 : g_ri5 (A_ri5 l) = some (T.v (Value.bool (asc l))) := by rw [g_ri5_at]; exact onlyL_ok _ h
  exact ((orG_r (gA_none fun x h => by simp [A_ri1, A_ri5] at h)).trans ((orG_r (gA_none fun x h => by simp [A_ri2, A_ri5] at h)).trans ((orG_r (gA_none fun x h => by simp [A_ri3, A_ri5] at h)).trans ((orG_r (gA_none fun x h => by simp [A_ri4, A_ri5] at h)).trans h1))))
abbrev tRef (d : TDesign) (m1 m2 m3 m4 : List (ByteArray × Int)) : T := T.ref [T.ref (yDesign.enc d), T.mp (encM m1), T.mp (encM m2), T.mp (encM m3), T.mp (encM m4)]
end Go.Pv
set_option linter.unusedSimpArgs false
set_option linter.unusedVariables false
set_option maxRecDepth 100000
namespace Go.Pv
open Go Go.Proofs
/-! ### What a map from strings to true holds -/
def Seen (es : List (ByteArray × Bool)) (S : ByteArray → Prop) : Prop := (∀ id b, getL es id = some b → b = true) ∧ ∀ id, getL es id = some true ↔ S id
theorem Seen.nil : Seen [] fun _ => False := ⟨fun id b h => (by cases h), fun id => ⟨fun h => (by cases h), fun h => h.elim⟩⟩
theorem Seen.ins {es : List (ByteArray × Bool)} {S : ByteArray → Prop} (h : Seen es S) (k : ByteArray) : Seen (insL es k true) fun id => S id ∨ k = id := by
  refine ⟨fun id b hb => ?_, fun id => ?_⟩
  · rw [getL_ins] at hb
    split at hb
    · cases hb; rfl
    · exact h.1 id b hb
  · rw [getL_ins]
    split
    · rename_i e; exact ⟨fun _ => .inr e, fun _ => rfl⟩
    · rename_i e; rw [h.2]; exact ⟨.inl, fun h => h.resolve_right e⟩
theorem Seen.congr {es : List (ByteArray × Bool)} {S S' : ByteArray → Prop} (h : Seen es S) (e : ∀ id, S id ↔ S' id) : Seen es S' := ⟨h.1, fun id => (h.2 id).trans (e id)⟩
abbrev RS := List (Value × T) × Nat × List Nat × Nat
theorem entK_M {m : List (ByteArray × Int)} {seen : List Nat} {i : Nat} (hi : i < m.length) (K : ByteArray → Int → Prop) (hk : K m[i].1 m[i].2) : entK .str false (.int .i64) (mpD (encM m)) (seen ++ [i]) K :=
  ⟨i, m[i].1, m[i].2, by simp, by simp only [mpD, encM, List.map_map, List.getElem?_map, List.getElem?_eq_getElem hi]; rfl, hk⟩
theorem chkA {m : List (ByteArray × Int)} {es : List (ByteArray × Bool)} {S : ByteArray → Prop} {R7 K : Prop} (hS : Seen es S) (hbad : (∃ i, ∃ h : i < m.length, S m[i].1) → R7) (hgood : (∀ i (h : i < m.length), ¬ S m[i].1) → K) :
    loopK (RS × PUnit) (fun (X : RS × PUnit → Prop) (s : RS × PUnit) => reqK (decide (s.fst.fst.length ≤ s.fst.snd.fst) && decide (s.fst.snd.fst ≤ s.fst.snd.snd.snd)) (eachK s.fst.fst.length s.fst.snd.snd.fst K fun (i : Nat) =>
      reqK (decide (s.fst.fst.length = s.fst.fst.length)) (entK Sy.str false (Sy.int IntKind.i64) (mpD s.fst.fst) (s.fst.snd.snd.fst ++ [i]) fun (k : ByteArray) (y : Int) =>
        findK TypeDesc.string (Value.string k) (List.map (encE Sy.str false Sy.bool) es) false Sy.bool (X ((s.fst.fst, s.fst.snd.fst, s.fst.snd.snd.fst ++ [i], s.fst.fst.length), ())) fun (j : Nat) (b : Bool) =>
          iteP b R7 (X ((s.fst.fst, s.fst.snd.fst, s.fst.snd.snd.fst ++ [i], s.fst.fst.length), ()))))) ((encM m, (encM m).length, [], (encM m).length), ()) := by
  have hml : (encM m).length = m.length := by simp [encM]
  refine loopK_ix m.length (fun k t => ∃ seen, t = ((encM m, (encM m).length, seen, (encM m).length), ()) ∧ (mitLeft m.length seen).length + k ≤ m.length ∧ ∀ i (h : i < m.length), i ∈ seen → ¬ S m[i].1) ⟨[], rfl, by rw [mitLeft_nil]; omega, by simp⟩ ?_
  rintro X k t hk ⟨seen, rfl, hlen, hJ⟩ hX
  dsimp only
  refine ⟨by simp, ?_, ?_⟩
  · intro hm
    rw [hml] at hm
    refine hgood fun i hi => hJ i hi ?_
    refine Classical.byContradiction fun hc => ?_
    have : i ∈ mitLeft m.length seen := mitLeft_mem.2 ⟨hi, hc⟩
    rw [hm] at this; cases this
  · intro i hi
    rw [hml] at hi
    have hi1 := (mitLeft_mem.1 hi).1
    have hst := mitLeft_step hi
    refine ⟨by simp, entK_M hi1 _ ?_⟩
    have go : ¬ S m[i].1 → X ((encM m, (encM m).length, seen ++ [i], (encM m).length), ()) := fun hn => hX _ (by omega) ⟨_, rfl, by omega, fun j hj hm => by
      rcases List.mem_append.1 hm with h | h
      · exact hJ j hj h
      · simp at h; subst h; exact hn⟩
    refine findK_S (r := .bool) (fun hno => go fun h => ?_) fun j b hb => ?_
    · have := (hS.2 m[i].1).2 h
      rw [hno] at this; cases this
    · have := hS.1 _ _ hb
      subst this
      rw [iteP_t]
      exact hbad ⟨i, hi1, (hS.2 _).1 hb⟩
theorem addB {m : List (ByteArray × Int)} {es : List (ByteArray × Bool)} {S : ByteArray → Prop} {K : List (ByteArray × Bool) × RS × PUnit → Prop} (hS : Seen es S) (hgood : ∀ es' rs, Seen es' (fun id => S id ∨ ∃ i, ∃ h : i < m.length, m[i].1 = id) → K (es', rs, ())) :
    decMK Sy.str false Sy.bool (List.map (encE Sy.str false Sy.bool) es) fun (y : List (ByteArray × Bool)) =>
    loopK (List (ByteArray × Bool) × RS × PUnit) (fun (X : List (ByteArray × Bool) × RS × PUnit → Prop) (s : List (ByteArray × Bool) × RS × PUnit) => reqK (decide (s.snd.fst.fst.length ≤ s.snd.fst.snd.fst) && decide (s.snd.fst.snd.fst ≤ s.snd.fst.snd.snd.snd)) (eachK s.snd.fst.fst.length s.snd.fst.snd.snd.fst (K s) fun (i : Nat) =>
      reqK (decide (s.snd.fst.fst.length = s.snd.fst.fst.length)) (entK Sy.str false (Sy.int IntKind.i64) (mpD s.snd.fst.fst) (s.snd.fst.snd.snd.fst ++ [i]) fun (k : ByteArray) (y : Int) =>
        optK (Option (Nat × D)) (findD TypeDesc.string (keyV Sy.str k) (List.map (encE Sy.str false Sy.bool) s.fst) 0) fun (y37 : Option (Nat × D)) =>
          decMK Sy.str false Sy.bool (setEnt (List.map (encE Sy.str false Sy.bool) s.fst) y37 (Value.string k) (D.p (T.v (Value.bool true)))) fun (y38 : List (ByteArray × Bool)) =>
            X (y38, (s.snd.fst.fst, s.snd.fst.snd.fst, s.snd.fst.snd.snd.fst ++ [i], s.snd.fst.fst.length), ())))) (y, (encM m, (encM m).length, [], (encM m).length), ()) := by
  have hml : (encM m).length = m.length := by simp [encM]
  refine decMK_eS (r := .bool) rfl es _ ?_
  refine loopK_ix m.length (fun k t => ∃ seen es', t = (es', (encM m, (encM m).length, seen, (encM m).length), ()) ∧ (mitLeft m.length seen).length + k ≤ m.length ∧ Seen es' (fun id => S id ∨ ∃ i, ∃ h : i < m.length, i ∈ seen ∧ m[i].1 = id)) ⟨[], es, rfl, by rw [mitLeft_nil]; omega, hS.congr (by simp)⟩ ?_
  rintro X k t hk ⟨seen, es', rfl, hlen, hJ⟩ hX
  dsimp only
  refine ⟨by simp, ?_, ?_⟩
  · intro hm
    rw [hml] at hm
    refine hgood _ _ (hJ.congr fun id => ⟨fun h => h.imp_right fun ⟨i, hi, _, e⟩ => ⟨i, hi, e⟩, fun h => h.imp_right fun ⟨i, hi, e⟩ => ⟨i, hi, ?_, e⟩⟩)
    refine Classical.byContradiction fun hc => ?_
    have : i ∈ mitLeft m.length seen := mitLeft_mem.2 ⟨hi, hc⟩
    rw [hm] at this; cases this
  · intro i hi
    rw [hml] at hi
    have hi1 := (mitLeft_mem.1 hi).1
    have hst := mitLeft_step hi
    refine ⟨by simp, entK_M hi1 _ ?_⟩
    refine ins_S (r := .bool) rfl (es := es') (k := m[i].1) (v := true) (hX _ (by omega) ⟨seen ++ [i], _, rfl, by omega, (hJ.ins _).congr fun id => ⟨?_, ?_⟩⟩)
    · rintro ((h | ⟨j, hj, hm, e⟩) | h)
      · exact .inl h
      · exact .inr ⟨j, hj, by simp [hm], e⟩
      · exact .inr ⟨i, hi1, by simp, h⟩
    · rintro (h | ⟨j, hj, hm, e⟩)
      · exact .inl (.inl h)
      · rcases List.mem_append.1 hm with hm | hm
        · exact .inl (.inr ⟨j, hj, hm, e⟩)
        · simp at hm; subst hm; exact .inr e
/-! ### The order of requirements -/
def ltN (a b : TNeed) : Bool := decide (a.1 < b.1) || (decide (a.1 = b.1) && (sless a.2.1 b.2.1 || (decide (a.2.1 = b.2.1) && sless a.2.2 b.2.2)))
def ascN : List TNeed → Bool
  | a :: b :: l => ltN a b && ascN (b :: l)
  | _ => true
theorem ascN_step {l : List TNeed} {k : Nat} (h : k + 1 < l.length) : ascN (l.drop k) = (ltN l[k] l[k + 1] && ascN (l.drop (k + 1))) := by
  rw [List.drop_eq_getElem_cons (show k < l.length by omega), List.drop_eq_getElem_cons h, ascN]
theorem ascN_end {l : List TNeed} {k : Nat} (h : l.length ≤ k + 1) : ascN (l.drop k) = true := by
  rcases Nat.lt_or_ge k l.length with h1 | h1
  · rw [List.drop_eq_getElem_cons h1, List.drop_eq_nil_of_le h]; rfl
  · rw [List.drop_eq_nil_of_le h1]; rfl
/-! ### The keys of an index -/
theorem insL_keys (k : ByteArray) (v : Int) (id : ByteArray) : ∀ es : List (ByteArray × Int), id ∈ (insL es k v).map (fun e => e.1) ↔ id ∈ es.map (fun e => e.1) ∨ id = k
  | [] => by simp [insL]
  | e :: es => by
    simp only [insL]
    split
    · rename_i h
      simp only [List.map_cons, List.mem_cons]
      rw [← h]
      constructor
      · rintro (h | h)
        · exact .inl (.inl h)
        · exact .inl (.inr h)
      · rintro ((h | h) | h)
        · exact .inl h
        · exact .inr h
        · exact .inl h
    · simp only [List.map_cons, List.mem_cons, insL_keys k v id es, or_assoc]
theorem ixOf_keys (id : ByteArray) : ∀ (l : List ByteArray) (i : Nat) (es : List (ByteArray × Int)), id ∈ (ixOf l i es).map (fun e => e.1) ↔ id ∈ es.map (fun e => e.1) ∨ id ∈ l
  | [], i, es => by simp [ixOf]
  | a :: l, i, es => by
    simp only [ixOf]
    rw [ixOf_keys id l]
    cases h : getL es a with
    | none => simp only [insL_keys, List.mem_cons, or_assoc]
    | some v =>
      simp only [List.mem_cons]
      have ha : a ∈ es.map (fun e => e.1) := by
        rcases getL_cases a es with ⟨h1, _⟩ | ⟨j, hj, h1, _⟩
        · rw [h] at h1; cases h1
        · exact List.mem_map.2 ⟨es[j], List.getElem_mem hj, h1⟩
      constructor
      · rintro (h | h)
        · exact .inl h
        · exact .inr (.inr h)
      · rintro (h | rfl | h)
        · exact .inl h
        · exact .inl ha
        · exact .inr h
theorem ixs_keys {l : List ByteArray} {id : ByteArray} : (∃ i, ∃ h : i < (ixs l).length, (ixs l)[i].1 = id) ↔ id ∈ l := by
  have h := ixOf_keys id l 0 []
  simp only [List.map_nil, List.not_mem_nil, false_or] at h
  rw [← h, List.mem_map]
  constructor
  · rintro ⟨i, hi, e⟩; exact ⟨_, List.getElem_mem hi, e⟩
  · rintro ⟨e, he, h⟩
    obtain ⟨i, hi, rfl⟩ := List.mem_iff_getElem.1 he
    exact ⟨i, hi, h⟩
set_option maxRecDepth 100000
def A_form (a0 : TDesign) (m1 : List (ByteArray × Int)) (m2 : List (ByteArray × Int)) (m3 : List (ByteArray × Int)) (m4 : List (ByteArray × Int)) : List T := [tRef a0 m1 m2 m3 m4]
noncomputable def E_form : Env := Env.of [(62, .pure g_ri)]
def H_form : FuncId → Hint := fun f => match f == 42 with | true => ⟨fun r => match r == 9 with | true => .inv [.val 4 false .bool, .val 5 false (.int .i64)] | false => match r == 17 with | true => .unroll 5 | false => match r == 20 with | true => .alts [[.mitF 30], [.mitF 29], [.mitF 28], [.mitF 27], [.mitF 26], [.mitF 25], [.mitF 24], [.mitF 23], [.mitF 22], [.mitF 21], [.mitF 20], [.mitF 19], [.mitF 18], [.mitF 17], [.mitF 16], [.mitF 15], [.mitF 14], [.mitF 13], [.mitF 12], [.mitF 11], [.mitF 10], [.mitF 9], [.mitF 8], [.mitF 7], [.mitF 6], [.mitF 5], [.mitF 4], [.mitF 3], [.mitF 2]] | false => match r == 25 with | true => .alts [[.map 2 .str false .bool, .mitF 30], [.map 2 .str false .bool, .mitF 29], [.map 2 .str false .bool, .mitF 28], [.map 2 .str false .bool, .mitF 27], [.map 2 .str false .bool, .mitF 26], [.map 2 .str false .bool, .mitF 25], [.map 2 .str false .bool, .mitF 24], [.map 2 .str false .bool, .mitF 23], [.map 2 .str false .bool, .mitF 22], [.map 2 .str false .bool, .mitF 21], [.map 2 .str false .bool, .mitF 20], [.map 2 .str false .bool, .mitF 19], [.map 2 .str false .bool, .mitF 18], [.map 2 .str false .bool, .mitF 17], [.map 2 .str false .bool, .mitF 16], [.map 2 .str false .bool, .mitF 15], [.map 2 .str false .bool, .mitF 14], [.map 2 .str false .bool, .mitF 13], [.map 2 .str false .bool, .mitF 12], [.map 2 .str false .bool, .mitF 11], [.map 2 .str false .bool, .mitF 10], [.map 2 .str false .bool, .mitF 9], [.map 2 .str false .bool, .mitF 8], [.map 2 .str false .bool, .mitF 7], [.map 2 .str false .bool, .mitF 6], [.map 2 .str false .bool, .mitF 5], [.map 2 .str false .bool, .mitF 4], [.map 2 .str false .bool, .mitF 3], [.map 2 .str false .bool, .mitF 2]] | false => .none, fun i j => match i == 5 && j == 5 with | true => some [.val 4 false .bool] | false => match i == 6 && j == 6 with | true => some [.val 4 false .bool] | false => match i == 7 && j == 7 with | true => some [.val 4 false .bool] | false => none, fun r => match r == 21 with | true => some (.str, false, (.int .i64)) | false => match r == 26 with | true => some (.str, false, (.int .i64)) | false => none⟩ | false => noHint
theorem Eok_form : EnvOk Tryz.prog E_form := EnvOk.cons (x := .pure g_ri) fn_ri (EnvOk.nil _)
def F_form (a0 : TDesign) (m1 : List (ByteArray × Int)) (m2 : List (ByteArray × Int)) (m3 : List (ByteArray × Int)) (m4 : List (ByteArray × Int)) (R : T → Prop) : Prop :=
 iteP (decide (64 < (↑(List.map yNode.enc a0.snd.fst).length : Int)))
 (R (T.v (Value.int IntKind.i64 4)))
 (iteP (decide (256 < (↑(List.map yPart.enc a0.snd.snd.fst).length : Int)))
 (R (T.v (Value.int IntKind.i64 4)))
 (iteP (decide (256 < (↑(List.map ySeam.enc a0.snd.snd.snd.fst).length : Int)))
 (R (T.v (Value.int IntKind.i64 4)))
 (iteP (decide (64 < (↑(List.map yPackage.enc a0.snd.snd.snd.snd.fst).length : Int)))
 (R (T.v (Value.int IntKind.i64 4)))
 (iteP (decide (256 < (↑(List.map yNeed.enc a0.snd.snd.snd.snd.snd).length : Int)))
 (R (T.v (Value.int IntKind.i64 4)))
 (callK [(false, Sy.bool)]
 (g_ri
 [T.v (Value.int IntKind.i64 (↑(List.map yNode.enc a0.snd.fst).length : Int)),
 T.fn 63 []
 [T.ref
 [T.ref
 [T.v (Value.string a0.fst), T.sl false (List.map yNode.enc a0.snd.fst),
 T.sl false (List.map yPart.enc a0.snd.snd.fst),
 T.sl false (List.map ySeam.enc a0.snd.snd.snd.fst),
 T.sl false (List.map yPackage.enc a0.snd.snd.snd.snd.fst),
 T.sl false (List.map yNeed.enc a0.snd.snd.snd.snd.snd)]]]])
 fun (y0 : Bool) =>
 joinK (Bool × PUnit)
 (fun (X1 : Bool × PUnit → Prop) =>
 iteP y0
 (callK [(false, Sy.bool)]
 (g_ri
 [T.v
 (Value.int IntKind.i64 (↑(List.map yPart.enc a0.snd.snd.fst).length : Int)),
 T.fn 64 []
 [T.ref
 [T.ref
 [T.v (Value.string a0.fst),
 T.sl false (List.map yNode.enc a0.snd.fst),
 T.sl false (List.map yPart.enc a0.snd.snd.fst),
 T.sl false (List.map ySeam.enc a0.snd.snd.snd.fst),
 T.sl false (List.map yPackage.enc a0.snd.snd.snd.snd.fst),
 T.sl false (List.map yNeed.enc a0.snd.snd.snd.snd.snd)]]]])
 fun (y2 : Bool) => X1 (y2, ()))
 (X1 (false, ())))
 fun (s3 : Bool × PUnit) =>
 joinK (Bool × PUnit)
 (fun (X4 : Bool × PUnit → Prop) =>
 iteP s3.fst
 (callK [(false, Sy.bool)]
 (g_ri
 [T.v
 (Value.int IntKind.i64 (↑(List.map ySeam.enc a0.snd.snd.snd.fst).length : Int)),
 T.fn 65 []
 [T.ref
 [T.ref
 [T.v (Value.string a0.fst),
 T.sl false (List.map yNode.enc a0.snd.fst),
 T.sl false (List.map yPart.enc a0.snd.snd.fst),
 T.sl false (List.map ySeam.enc a0.snd.snd.snd.fst),
 T.sl false (List.map yPackage.enc a0.snd.snd.snd.snd.fst),
 T.sl false (List.map yNeed.enc a0.snd.snd.snd.snd.snd)]]]])
 fun (y5 : Bool) => X4 (y5, ()))
 (X4 (false, ())))
 fun (s6 : Bool × PUnit) =>
 joinK (Bool × PUnit)
 (fun (X7 : Bool × PUnit → Prop) =>
 iteP s6.fst
 (callK [(false, Sy.bool)]
 (g_ri
 [T.v
 (Value.int IntKind.i64
 (↑(List.map yPackage.enc a0.snd.snd.snd.snd.fst).length : Int)),
 T.fn 66 []
 [T.ref
 [T.ref
 [T.v (Value.string a0.fst),
 T.sl false (List.map yNode.enc a0.snd.fst),
 T.sl false (List.map yPart.enc a0.snd.snd.fst),
 T.sl false (List.map ySeam.enc a0.snd.snd.snd.fst),
 T.sl false (List.map yPackage.enc a0.snd.snd.snd.snd.fst),
 T.sl false (List.map yNeed.enc a0.snd.snd.snd.snd.snd)]]]])
 fun (y8 : Bool) => X7 (y8, ()))
 (X7 (false, ())))
 fun (s9 : Bool × PUnit) =>
 loopK (Bool × Int × PUnit)
 (fun (X10 : Bool × Int × PUnit → Prop) (s11 : Bool × Int × PUnit) =>
 iteP
 (decide (s11.snd.fst < (↑(List.map yNeed.enc a0.snd.snd.snd.snd.snd).length : Int)))
 (rowsK yNeed (List.map yNeed.enc a0.snd.snd.snd.snd.snd)
 (IntKind.i64.wrap (s11.snd.fst - 1)) fun (y12 : TNeed) =>
 rowsK yNeed (List.map yNeed.enc a0.snd.snd.snd.snd.snd) s11.snd.fst
 fun (y13 : TNeed) =>
 iteP s11.fst
 (iteP (decide (y12.fst < y13.fst))
 (X10 (true, IntKind.i64.wrap (s11.snd.fst + 1), ()))
 (iteP (decide (y12.fst = y13.fst))
 (iteP (sless y12.snd.fst y13.snd.fst)
 (X10 (true, IntKind.i64.wrap (s11.snd.fst + 1), ()))
 (iteP (decide (y12.snd.fst = y13.snd.fst))
 (X10
 (sless y12.snd.snd y13.snd.snd, IntKind.i64.wrap (s11.snd.fst + 1),
 ()))
 (X10 (false, IntKind.i64.wrap (s11.snd.fst + 1), ()))))
 (X10 (false, IntKind.i64.wrap (s11.snd.fst + 1), ()))))
 (X10 (false, IntKind.i64.wrap (s11.snd.fst + 1), ())))
 (iteP (!s11.fst) (R (T.v (Value.int IntKind.i64 11)))
 (loopK ((List (Value × T) × Nat × List Nat × Nat) × PUnit)
 (fun (X14 : (List (Value × T) × Nat × List Nat × Nat) × PUnit → Prop)
 (s15 : (List (Value × T) × Nat × List Nat × Nat) × PUnit) =>
 reqK
 (decide (s15.fst.fst.length ≤ s15.fst.snd.fst) &&
 decide (s15.fst.snd.fst ≤ s15.fst.snd.snd.snd))
 (eachK s15.fst.fst.length s15.fst.snd.snd.fst
 (decMK Sy.str false Sy.bool []
 fun (y16 : List (ByteArray × Bool)) =>
 loopK
 (List (ByteArray × Bool) ×
 (List (Value × T) × Nat × List Nat × Nat) × PUnit)
 (fun
 (X17 :
 List (ByteArray × Bool) ×
 (List (Value × T) × Nat × List Nat × Nat) × PUnit →
 Prop)
 (s18 :
 List (ByteArray × Bool) ×
 (List (Value × T) × Nat × List Nat × Nat) × PUnit) =>
 reqK
 (decide (s18.snd.fst.fst.length ≤ s18.snd.fst.snd.fst) &&
 decide (s18.snd.fst.snd.fst ≤ s18.snd.fst.snd.snd.snd))
 (eachK s18.snd.fst.fst.length s18.snd.fst.snd.snd.fst
 (loopK ((List (Value × T) × Nat × List Nat × Nat) × PUnit)
 (fun
 (X19 :
 (List (Value × T) × Nat × List Nat × Nat) × PUnit → Prop)
 (s20 : (List (Value × T) × Nat × List Nat × Nat) × PUnit) =>
 reqK
 (decide (s20.fst.fst.length ≤ s20.fst.snd.fst) &&
 decide (s20.fst.snd.fst ≤ s20.fst.snd.snd.snd))
 (eachK s20.fst.fst.length s20.fst.snd.snd.fst
 (decMK Sy.str false Sy.bool
 (List.map (encE Sy.str false Sy.bool) s18.fst)
 fun (y21 : List (ByteArray × Bool)) =>
 loopK
 (List (ByteArray × Bool) ×
 (List (Value × T) × Nat × List Nat × Nat) × PUnit)
 (fun
 (X22 :
 List (ByteArray × Bool) ×
 (List (Value × T) × Nat × List Nat × Nat) ×
 PUnit →
 Prop)
 (s23 :
 List (ByteArray × Bool) ×
 (List (Value × T) × Nat × List Nat × Nat) ×
 PUnit) =>
 reqK
 (decide (s23.snd.fst.fst.length ≤ s23.snd.fst.snd.fst) &&
 decide (s23.snd.fst.snd.fst ≤ s23.snd.fst.snd.snd.snd))
 (eachK s23.snd.fst.fst.length s23.snd.fst.snd.snd.fst
 (loopK
 ((List (Value × T) × Nat × List Nat × Nat) ×
 PUnit)
 (fun
 (X24 :
 (List (Value × T) ×
 Nat × List Nat × Nat) ×
 PUnit →
 Prop)
 (s25 :
 (List (Value × T) ×
 Nat × List Nat × Nat) ×
 PUnit) =>
 reqK
 (decide (s25.fst.fst.length ≤ s25.fst.snd.fst) &&
 decide (s25.fst.snd.fst ≤ s25.fst.snd.snd.snd))
 (eachK s25.fst.fst.length s25.fst.snd.snd.fst
 (decMK Sy.str false Sy.bool
 (List.map
 (encE Sy.str false Sy.bool)
 s23.fst)
 fun (y26 : List (ByteArray × Bool)) =>
 loopK
 (List (ByteArray × Bool) ×
 (List (Value × T) ×
 Nat × List Nat × Nat) ×
 PUnit)
 (fun
 (X27 :
 List (ByteArray × Bool) ×
 (List (Value × T) ×
 Nat × List Nat × Nat) ×
 PUnit →
 Prop)
 (s28 :
 List (ByteArray × Bool) ×
 (List (Value × T) ×
 Nat × List Nat × Nat) ×
 PUnit) =>
 reqK
 (decide
 (s28.snd.fst.fst.length ≤
 s28.snd.fst.snd.fst) &&
 decide
 (s28.snd.fst.snd.fst ≤
 s28.snd.fst.snd.snd.snd))
 (eachK s28.snd.fst.fst.length
 s28.snd.fst.snd.snd.fst
 (loopK
 ((List (Value × T) ×
 Nat × List Nat × Nat) ×
 PUnit)
 (fun
 (X29 :
 (List (Value × T) ×
 Nat × List Nat × Nat) ×
 PUnit →
 Prop)
 (s30 :
 (List (Value × T) ×
 Nat × List Nat × Nat) ×
 PUnit) =>
 reqK
 (decide
 (s30.fst.fst.length ≤
 s30.fst.snd.fst) &&
 decide
 (s30.fst.snd.fst ≤
 s30.fst.snd.snd.snd))
 (eachK s30.fst.fst.length
 s30.fst.snd.snd.fst
 (decMK Sy.str false
 Sy.bool
 (List.map
 (encE Sy.str
 false Sy.bool)
 s28.fst)
 fun
 (y31 :
 List
 (ByteArray × Bool)) =>
 loopK
 (List (ByteArray × Bool) ×
 (List
 (Value ×
 T) ×
 Nat ×
 List Nat × Nat) ×
 PUnit)
 (fun
 (X32 :
 List
 (ByteArray ×
 Bool) ×
 (List
 (Value ×
 T) ×
 Nat ×
 List Nat ×
 Nat) ×
 PUnit →
 Prop)
 (s33 :
 List
 (ByteArray ×
 Bool) ×
 (List
 (Value ×
 T) ×
 Nat ×
 List Nat ×
 Nat) ×
 PUnit) =>
 reqK
 (decide
 (s33.snd.fst.fst.length ≤
 s33.snd.fst.snd.fst) &&
 decide
 (s33.snd.fst.snd.fst ≤
 s33.snd.fst.snd.snd.snd))
 (eachK
 s33.snd.fst.fst.length
 s33.snd.fst.snd.snd.fst
 (R
 (T.v
 (Value.int
 IntKind.i64
 0)))
 fun (i34 : Nat) =>
 reqK
 (decide
 (s33.snd.fst.fst.length =
 s33.snd.fst.fst.length))
 (entK
 Sy.str false
 (Sy.int
 IntKind.i64)
 (mpD
 s33.snd.fst.fst)
 (s33.snd.fst.snd.snd.fst ++
 [i34])
 fun
 (k35 :
 ByteArray)
 (y36 : Int) =>
 optK
 (Option
 (Nat ×
 D))
 (findD
 TypeDesc.string
 (keyV
 Sy.str
 k35)
 (List.map
 (encE
 Sy.str
 false
 Sy.bool)
 s33.fst)
 0)
 fun
 (y37 :
 Option
 (Nat ×
 D)) =>
 decMK
 Sy.str
 false
 Sy.bool
 (setEnt
 (List.map
 (encE
 Sy.str
 false
 Sy.bool)
 s33.fst)
 y37
 (Value.string
 k35)
 (D.p
 (T.v
 (Value.bool
 true))))
 fun
 (y38 :
 List
 (ByteArray ×
 Bool)) =>
 X32
 (y38,
 (s33.snd.fst.fst,
 s33.snd.fst.snd.fst,
 s33.snd.fst.snd.snd.fst ++
 [i34],
 s33.snd.fst.fst.length),
 ()))))
 (y31,
 (encM m4,
 (encM m4).length,
 [],
 (encM m4).length),
 ()))
 fun (i39 : Nat) =>
 reqK
 (decide
 (s30.fst.fst.length =
 s30.fst.fst.length))
 (entK Sy.str false
 (Sy.int
 IntKind.i64)
 (mpD s30.fst.fst)
 (s30.fst.snd.snd.fst ++
 [i39])
 fun (k40 : ByteArray)
 (y41 : Int) =>
 findK
 TypeDesc.string
 (Value.string k40)
 (List.map
 (encE Sy.str
 false Sy.bool)
 s28.fst)
 false Sy.bool
 (X29
 ((s30.fst.fst,
 s30.fst.snd.fst,
 s30.fst.snd.snd.fst ++
 [i39],
 s30.fst.fst.length),
 ()))
 fun (i42 : Nat)
 (y43 : Bool) =>
 iteP y43
 (R
 (T.v
 (Value.int
 IntKind.i64
 7)))
 (X29
 ((s30.fst.fst,
 s30.fst.snd.fst,
 s30.fst.snd.snd.fst ++
 [i39],
 s30.fst.fst.length),
 ())))))
 ((encM m4,
 (encM m4).length, [],
 (encM m4).length),
 ()))
 fun (i44 : Nat) =>
 reqK
 (decide
 (s28.snd.fst.fst.length =
 s28.snd.fst.fst.length))
 (entK Sy.str false
 (Sy.int IntKind.i64)
 (mpD s28.snd.fst.fst)
 (s28.snd.fst.snd.snd.fst ++ [i44])
 fun (k45 : ByteArray) (y46 : Int) =>
 optK (Option (Nat × D))
 (findD TypeDesc.string
 (keyV Sy.str k45)
 (List.map
 (encE Sy.str false
 Sy.bool)
 s28.fst)
 0)
 fun
 (y47 :
 Option (Nat × D)) =>
 decMK Sy.str false
 Sy.bool
 (setEnt
 (List.map
 (encE Sy.str
 false Sy.bool)
 s28.fst)
 y47 (Value.string k45)
 (D.p
 (T.v
 (Value.bool true))))
 fun
 (y48 :
 List (ByteArray × Bool)) =>
 X27
 (y48,
 (s28.snd.fst.fst,
 s28.snd.fst.snd.fst,
 s28.snd.fst.snd.snd.fst ++
 [i44],
 s28.snd.fst.fst.length),
 ()))))
 (y26,
 (encM m3, (encM m3).length, [],
 (encM m3).length),
 ()))
 fun (i49 : Nat) =>
 reqK
 (decide
 (s25.fst.fst.length = s25.fst.fst.length))
 (entK Sy.str false
 (Sy.int IntKind.i64)
 (mpD s25.fst.fst)
 (s25.fst.snd.snd.fst ++ [i49])
 fun (k50 : ByteArray) (y51 : Int) =>
 findK TypeDesc.string
 (Value.string k50)
 (List.map
 (encE Sy.str false
 Sy.bool)
 s23.fst)
 false Sy.bool
 (X24
 ((s25.fst.fst, s25.fst.snd.fst,
 s25.fst.snd.snd.fst ++ [i49],
 s25.fst.fst.length),
 ()))
 fun (i52 : Nat) (y53 : Bool) =>
 iteP y53
 (R
 (T.v
 (Value.int IntKind.i64 7)))
 (X24
 ((s25.fst.fst, s25.fst.snd.fst,
 s25.fst.snd.snd.fst ++ [i49],
 s25.fst.fst.length),
 ())))))
 ((encM m3, (encM m3).length, [],
 (encM m3).length),
 ()))
 fun (i54 : Nat) =>
 reqK
 (decide
 (s23.snd.fst.fst.length = s23.snd.fst.fst.length))
 (entK Sy.str false
 (Sy.int IntKind.i64)
 (mpD s23.snd.fst.fst)
 (s23.snd.fst.snd.snd.fst ++ [i54])
 fun (k55 : ByteArray) (y56 : Int) =>
 optK (Option (Nat × D))
 (findD TypeDesc.string
 (keyV Sy.str k55)
 (List.map
 (encE Sy.str false Sy.bool)
 s23.fst)
 0)
 fun (y57 : Option (Nat × D)) =>
 decMK Sy.str false Sy.bool
 (setEnt
 (List.map
 (encE Sy.str false Sy.bool)
 s23.fst)
 y57 (Value.string k55)
 (D.p (T.v (Value.bool true))))
 fun (y58 : List (ByteArray × Bool)) =>
 X22
 (y58,
 (s23.snd.fst.fst, s23.snd.fst.snd.fst,
 s23.snd.fst.snd.snd.fst ++ [i54],
 s23.snd.fst.fst.length),
 ()))))
 (y21,
 (encM m2, (encM m2).length, [],
 (encM m2).length),
 ()))
 fun (i59 : Nat) =>
 reqK (decide (s20.fst.fst.length = s20.fst.fst.length))
 (entK Sy.str false (Sy.int IntKind.i64)
 (mpD s20.fst.fst) (s20.fst.snd.snd.fst ++ [i59])
 fun (k60 : ByteArray) (y61 : Int) =>
 findK TypeDesc.string (Value.string k60)
 (List.map (encE Sy.str false Sy.bool)
 s18.fst)
 false Sy.bool
 (X19
 ((s20.fst.fst, s20.fst.snd.fst,
 s20.fst.snd.snd.fst ++ [i59], s20.fst.fst.length),
 ()))
 fun (i62 : Nat) (y63 : Bool) =>
 iteP y63 (R (T.v (Value.int IntKind.i64 7)))
 (X19
 ((s20.fst.fst, s20.fst.snd.fst,
 s20.fst.snd.snd.fst ++ [i59], s20.fst.fst.length),
 ())))))
 ((encM m2, (encM m2).length, [], (encM m2).length), ()))
 fun (i64 : Nat) =>
 reqK (decide (s18.snd.fst.fst.length = s18.snd.fst.fst.length))
 (entK Sy.str false (Sy.int IntKind.i64)
 (mpD s18.snd.fst.fst) (s18.snd.fst.snd.snd.fst ++ [i64])
 fun (k65 : ByteArray) (y66 : Int) =>
 optK (Option (Nat × D))
 (findD TypeDesc.string (keyV Sy.str k65)
 (List.map (encE Sy.str false Sy.bool) s18.fst) 0)
 fun (y67 : Option (Nat × D)) =>
 decMK Sy.str false Sy.bool
 (setEnt
 (List.map (encE Sy.str false Sy.bool) s18.fst)
 y67 (Value.string k65)
 (D.p (T.v (Value.bool true))))
 fun (y68 : List (ByteArray × Bool)) =>
 X17
 (y68,
 (s18.snd.fst.fst, s18.snd.fst.snd.fst,
 s18.snd.fst.snd.snd.fst ++ [i64], s18.snd.fst.fst.length),
 ()))))
 (y16, (encM m1, (encM m1).length, [], (encM m1).length), ()))
 fun (i69 : Nat) =>
 reqK (decide (s15.fst.fst.length = s15.fst.fst.length))
 (entK Sy.str false (Sy.int IntKind.i64) (mpD s15.fst.fst)
 (s15.fst.snd.snd.fst ++ [i69]) fun (k70 : ByteArray) (y71 : Int) =>
 findK TypeDesc.string (Value.string k70) [] false Sy.bool
 (X14
 ((s15.fst.fst, s15.fst.snd.fst, s15.fst.snd.snd.fst ++ [i69],
 s15.fst.fst.length),
 ()))
 fun (i72 : Nat) (y73 : Bool) =>
 iteP y73 (R (T.v (Value.int IntKind.i64 7)))
 (X14
 ((s15.fst.fst, s15.fst.snd.fst, s15.fst.snd.snd.fst ++ [i69],
 s15.fst.fst.length),
 ())))))
 ((encM m1, (encM m1).length, [], (encM m1).length), ()))))
 (s9.fst, 1, ()))))))
theorem F_form_eq (a0 : TDesign) (m1 : List (ByteArray × Int)) (m2 : List (ByteArray × Int)) (m3 : List (ByteArray × Int)) (m4 : List (ByteArray × Int)) (R : T → Prop) : sxTop stdC2 Tryz.prog E_form H_form 8 42 (A_form a0 m1 m2 m3 m4) R = F_form a0 m1 m2 m3 m4 R := by kernel_rfl
abbrev r_form : Sh := [(false, Sy.int IntKind.i64)]
theorem r_form_call (y : Sh.den r_form) (K : Sh.den r_form → Prop) : callK r_form (some (Sh.enc r_form y)) K = K y := callK_enc rfl y K

abbrev MP := List (ByteArray × Int)
theorem encM_inj {a b : MP} (h : encM a = encM b) : a = b := map_inj (fun x y h => by
  simp only [Prod.mk.injEq, Value.string.injEq, T.v.injEq, Value.int.injEq, true_and] at h
  exact Prod.ext h.1 h.2) h
theorem tRef_inj {x y : TDesign × MP × MP × MP × MP} (h : tRef x.1 x.2.1 x.2.2.1 x.2.2.2.1 x.2.2.2.2 = tRef y.1 y.2.1 y.2.2.1 y.2.2.2.1 y.2.2.2.2) : x = y := by
  simp only [tRef, T.ref.injEq, List.cons.injEq, T.mp.injEq, and_true] at h
  obtain ⟨h0, h1, h2, h3, h4⟩ := h
  exact Prod.ext (Sy.enc_inj yDesign _ _ h0) (Prod.ext (encM_inj h1) (Prod.ext (encM_inj h2) (Prod.ext (encM_inj h3) (encM_inj h4))))
theorem A_form_inj (x y : TDesign × MP × MP × MP × MP) (h : A_form x.1 x.2.1 x.2.2.1 x.2.2.2.1 x.2.2.2.2 = A_form y.1 y.2.1 y.2.2.1 y.2.2.2.1 y.2.2.2.2) : x = y := tRef_inj (List.cons.inj h).1
def tooLong (d : TDesign) : Bool := decide (64 < d.2.1.length) || decide (256 < d.2.2.1.length) || decide (256 < d.2.2.2.1.length) || decide (64 < d.2.2.2.2.1.length) || decide (256 < d.2.2.2.2.2.length)
def inOrder (d : TDesign) : Bool := asc (ids d.2.1) && asc (ids d.2.2.1) && asc (ids d.2.2.2.1) && asc (ids d.2.2.2.2.1) && ascN d.2.2.2.2.2
def dup4 (l1 l2 l3 l4 : List ByteArray) : Bool := (l2.any (memB l1)) || (l3.any fun x => memB l1 x || memB l2 x) || (l4.any fun x => memB l1 x || memB l2 x || memB l3 x)
def dupD (d : TDesign) : Bool := dup4 (ids d.2.1) (ids d.2.2.1) (ids d.2.2.2.1) (ids d.2.2.2.2.1)
def formE (d : TDesign) : Int := if tooLong d = true then 4 else if inOrder d = false then 11 else if dupD d = true then 7 else 0
/-- The maps are the design's indices, and the lists are of a size that fits. -/
def okTr (x : TDesign × MP × MP × MP × MP) : Bool := decide (x.2.1 = ixs (ids x.1.2.1)) && decide (x.2.2.1 = ixs (ids x.1.2.2.1)) && decide (x.2.2.2.1 = ixs (ids x.1.2.2.2.1)) && decide (x.2.2.2.2 = ixs (ids x.1.2.2.2.2.1)) &&
  (decide (x.1.2.1.length ≤ 140737488355328) && decide (x.1.2.2.1.length ≤ 140737488355328) && decide (x.1.2.2.2.1.length ≤ 140737488355328) && decide (x.1.2.2.2.2.1.length ≤ 140737488355328) && decide (x.1.2.2.2.2.2.length ≤ 140737488355328))
structure SmallD (d : TDesign) : Prop where
  n : d.2.1.length ≤ 140737488355328
  p : d.2.2.1.length ≤ 140737488355328
  s : d.2.2.2.1.length ≤ 140737488355328
  k : d.2.2.2.2.1.length ≤ 140737488355328
  r : d.2.2.2.2.2.length ≤ 140737488355328
theorem okTr_iff {x : TDesign × MP × MP × MP × MP} : okTr x = true ↔ x = (x.1, ixs (ids x.1.2.1), ixs (ids x.1.2.2.1), ixs (ids x.1.2.2.2.1), ixs (ids x.1.2.2.2.2.1)) ∧ SmallD x.1 := by
  obtain ⟨d, a, b, c, e⟩ := x
  simp only [okTr, Bool.and_eq_true, decide_eq_true_eq, Prod.mk.injEq, true_and]
  constructor
  · rintro ⟨⟨⟨⟨rfl, rfl⟩, rfl⟩, rfl⟩, ⟨⟨⟨h1, h2⟩, h3⟩, h4⟩, h5⟩
    exact ⟨⟨rfl, rfl, rfl, rfl⟩, h1, h2, h3, h4, h5⟩
  · rintro ⟨⟨rfl, rfl, rfl, rfl⟩, h1, h2, h3, h4, h5⟩
    exact ⟨⟨⟨⟨rfl, rfl⟩, rfl⟩, rfl⟩, ⟨⟨⟨h1, h2⟩, h3⟩, h4⟩, h5⟩
def onlyT (x : TDesign × MP × MP × MP × MP) (t : T) : Option T := match okTr x with
  | true => some t
  | false => none
theorem onlyT_of {x : TDesign × MP × MP × MP × MP} {t r : T} (h : onlyT x t = some r) : x = (x.1, ixs (ids x.1.2.1), ixs (ids x.1.2.2.1), ixs (ids x.1.2.2.2.1), ixs (ids x.1.2.2.2.2.1)) ∧ SmallD x.1 ∧ r = t := by
  unfold onlyT at h; split at h
  · rename_i hc
    cases h
    exact ⟨(okTr_iff.1 hc).1, (okTr_iff.1 hc).2, rfl⟩
  · cases h
/-- The tree of a design. -/
abbrev treeA (d : TDesign) : T := tRef d (ixs (ids d.2.1)) (ixs (ids d.2.2.1)) (ixs (ids d.2.2.2.1)) (ixs (ids d.2.2.2.2.1))
theorem onlyT_ok {d : TDesign} (h : SmallD d) (t : T) : onlyT (d, ixs (ids d.2.1), ixs (ids d.2.2.1), ixs (ids d.2.2.2.1), ixs (ids d.2.2.2.2.1)) t = some t := by
  unfold onlyT; rw [okTr_iff.2 ⟨rfl, h⟩]
def sp_form (x : TDesign × MP × MP × MP × MP) : Option T := onlyT x (T.v (Value.int .i64 (formE x.1)))
noncomputable def g_form : List T → Option (T) := gA (fun (x : TDesign × (List (ByteArray × Int)) × (List (ByteArray × Int)) × (List (ByteArray × Int)) × List (ByteArray × Int)) => A_form x.1 x.2.1 x.2.2.1 x.2.2.2.1 x.2.2.2.2) sp_form
theorem g_form_at (a0 : TDesign) (m1 : List (ByteArray × Int)) (m2 : List (ByteArray × Int)) (m3 : List (ByteArray × Int)) (m4 : List (ByteArray × Int)) : g_form (A_form a0 m1 m2 m3 m4) = sp_form (a0, m1, m2, m3, m4) := gA_at (A := (fun (x : TDesign × (List (ByteArray × Int)) × (List (ByteArray × Int)) × (List (ByteArray × Int)) × List (ByteArray × Int)) => A_form x.1 x.2.1 x.2.2.1 x.2.2.2.1 x.2.2.2.2)) A_form_inj (a0, m1, m2, m3, m4)
theorem of_form (h : ∀ (a0 : TDesign) (m1 : List (ByteArray × Int)) (m2 : List (ByteArray × Int)) (m3 : List (ByteArray × Int)) (m4 : List (ByteArray × Int)) (r : T), sp_form (a0, m1, m2, m3, m4) = some r → (∀ t ∈ A_form a0 m1 m2 m3 m4, Bd t) → F_form a0 m1 m2 m3 m4 (fun y => y = r)) : PureFn Tryz.prog 42 g_form :=
  pureFn_A (E := E_form) (Hs := H_form) Eok_form mixed' plain' (noHeap_of rfl) 8 ⟨_, _, Tryz.func42, rfl⟩ fun x r h1 h2 => by
    rw [F_form_eq]
    exact h x.1 x.2.1 x.2.2.1 x.2.2.2.1 x.2.2.2.2 r h1 h2

theorem ri_call {A : List T} {b : Bool} (h : g_ri A = some (T.v (Value.bool b))) (K : Bool → Prop) (hk : K b) : callK [(false, Sy.bool)] (g_ri A) K := callK_some (s := [(false, Sy.bool)]) (y := b) h hk
theorem fn_form : PureFn Tryz.prog 42 g_form := of_form fun d m1 m2 m3 m4 r h hb => by
  obtain ⟨hx, hs, rfl⟩ := onlyT_of h
  simp only [Prod.mk.injEq, true_and] at hx
  obtain ⟨rfl, rfl, rfl, rfl⟩ := hx
  clear h
  have is : ∀ {n : Int}, formE d = n → T.v (Value.int IntKind.i64 n) = T.v (Value.int IntKind.i64 (formE d)) := fun h => by rw [h]
  have long : tooLong d = true → formE d = 4 := fun h => by unfold formE; rw [if_pos h]
  unfold F_form
  refine ifP (fun h => is (long (by rw [List.length_map] at h; simp only [tooLong, Bool.or_eq_true, decide_eq_true_eq]; omega))) fun l1 => ?_
  refine ifP (fun h => is (long (by rw [List.length_map] at h; simp only [tooLong, Bool.or_eq_true, decide_eq_true_eq]; omega))) fun l2 => ?_
  refine ifP (fun h => is (long (by rw [List.length_map] at h; simp only [tooLong, Bool.or_eq_true, decide_eq_true_eq]; omega))) fun l3 => ?_
  refine ifP (fun h => is (long (by rw [List.length_map] at h; simp only [tooLong, Bool.or_eq_true, decide_eq_true_eq]; omega))) fun l4 => ?_
  refine ifP (fun h => is (long (by rw [List.length_map] at h; simp only [tooLong, Bool.or_eq_true, decide_eq_true_eq]; omega))) fun l5 => ?_
  rw [List.length_map] at l1 l2 l3 l4 l5
  have notLong : tooLong d = false := by simp only [tooLong, Bool.or_eq_false_iff, decide_eq_false_iff_not]; omega
  refine ri_call (by rw [List.length_map]; exact g_ri_1 hs.n) _ ?_
  have step : ∀ {b c : Bool} {A : List T} {Z : Bool × PUnit → Prop}, g_ri A = some (T.v (Value.bool c)) → Z (b && c, ()) → joinK (Bool × PUnit) (fun (X : Bool × PUnit → Prop) => iteP b (callK [(false, Sy.bool)] (g_ri A) fun (y2 : Bool) => X (y2, ())) (X (false, ()))) Z := fun {b c A Z} hA hZ => by
    rw [joinK_def]
    cases b with
    | true => rw [iteP_t]; exact ri_call hA _ hZ
    | false => rw [iteP_f]; exact hZ
  refine step (by rw [List.length_map]; exact g_ri_2 hs.p) ?_
  refine step (by rw [List.length_map]; exact g_ri_3 hs.s) ?_
  refine step (by rw [List.length_map]; exact g_ri_4 hs.k) ?_
  refine loopK_ix d.2.2.2.2.2.length (fun k s => ∃ b, s = (b, ((k + 1 : Nat) : Int), ()) ∧ (b && ascN (d.2.2.2.2.2.drop k)) = inOrder d) ⟨_, rfl, by rw [List.drop_zero]; rfl⟩ ?_
  rintro X k s hk ⟨b, rfl, he⟩ hX
  dsimp only
  have hr := hs.r
  have hw : IntKind.i64.wrap (((k + 1 : Nat) : Int) + 1) = ((k + 1 + 1 : Nat) : Int) := wrap_id _ (by omega) (by omega)
  have hw1 : IntKind.i64.wrap (((k + 1 : Nat) : Int) - 1) = ((k : Nat) : Int) := by rw [wrap_id _ (by omega) (by omega)]; omega
  refine ifP (fun hlt => ?_) fun hge => ?_
  · have hlt : k + 1 < d.2.2.2.2.2.length := by rw [List.length_map] at hlt; omega
    rw [hw1, rowsK_at (r := yNeed) (show k < d.2.2.2.2.2.length by omega), rowsK_at (r := yNeed) hlt, hw]
    rw [ascN_step hlt] at he
    have go : ∀ c, (b && ltN d.2.2.2.2.2[k] d.2.2.2.2.2[k + 1]) = c → X (c, ((k + 1 + 1 : Nat) : Int), ()) := fun c hc => hX _ (by omega) ⟨c, rfl, by rw [← hc, Bool.and_assoc]; exact he⟩
    generalize d.2.2.2.2.2[k] = u at go
    generalize d.2.2.2.2.2[k + 1] = v at go
    cases b with
    | false => rw [iteP_f]; exact go _ rfl
    | true =>
      rw [iteP_t]
      simp only [Bool.true_and, ltN] at go
      refine ifP (fun h => go _ (by simp [h])) fun h1 => ?_
      refine ifP (fun h2 => ?_) fun h2 => go _ (by simp [h1, h2])
      refine ifB (fun h3 => go _ (by simp [h2, h3])) fun h3 => ?_
      refine ifP (fun h4 => go _ (by rw [decide_eq_false h1, decide_eq_true h2, h3, decide_eq_true h4]; rfl)) fun h4 => go _ (by rw [decide_eq_false h1, decide_eq_true h2, h3, decide_eq_false h4]; rfl)
  · rw [List.length_map] at hge
    rw [ascN_end (by omega), Bool.and_true] at he
    refine ifNB (fun h => is (by unfold formE; rw [notLong, if_neg (by simp), ← he, h]; rfl)) fun h => ?_
    have dup : dupD d = true → T.v (Value.int IntKind.i64 7) = T.v (Value.int IntKind.i64 (formE d)) := fun h7 => is (by unfold formE; rw [notLong, if_neg (by simp), ← he, h, if_neg (by simp), if_pos h7])
    have dup' : (∃ i, ∃ h : i < (ixs (ids d.2.2.1)).length, (ixs (ids d.2.2.1))[i].1 ∈ ids d.2.1) ∨ (∃ i, ∃ h : i < (ixs (ids d.2.2.2.1)).length, (ixs (ids d.2.2.2.1))[i].1 ∈ ids d.2.1 ∨ (ixs (ids d.2.2.2.1))[i].1 ∈ ids d.2.2.1) ∨ (∃ i, ∃ h : i < (ixs (ids d.2.2.2.2.1)).length, ((ixs (ids d.2.2.2.2.1))[i].1 ∈ ids d.2.1 ∨ (ixs (ids d.2.2.2.2.1))[i].1 ∈ ids d.2.2.1) ∨ (ixs (ids d.2.2.2.2.1))[i].1 ∈ ids d.2.2.2.1) → dupD d = true := by
      intro h
      simp only [dupD, dup4, Bool.or_eq_true, List.any_eq_true, memB_iff]
      rcases h with ⟨i, hi, h⟩ | ⟨i, hi, h⟩ | ⟨i, hi, h⟩
      · exact .inl (.inl ⟨_, ixs_keys.1 ⟨i, hi, rfl⟩, h⟩)
      · exact .inl (.inr ⟨_, ixs_keys.1 ⟨i, hi, rfl⟩, h⟩)
      · exact .inr ⟨_, ixs_keys.1 ⟨i, hi, rfl⟩, h⟩
    have m1 := fun id => (@ixs_keys (ids d.2.1) id)
    refine chkA (m := ixs (ids d.2.1)) (es := []) (R7 := T.v (Value.int IntKind.i64 7) = T.v (Value.int IntKind.i64 (formE d))) Seen.nil (fun h => by obtain ⟨_, _, h⟩ := h; exact h.elim) fun _ => ?_
    refine addB (m := ixs (ids d.2.1)) (es := []) Seen.nil fun e1 rs1 s1 => ?_
    have s1 := s1.congr (S' := fun id => id ∈ ids d.2.1) fun id => by rw [ixs_keys]; simp
    refine chkA (m := ixs (ids d.2.2.1)) s1 (fun h => dup (dup' (.inl h))) fun n1 => ?_
    refine addB (m := ixs (ids d.2.2.1)) s1 fun e2 rs2 s2 => ?_
    have s2 := s2.congr (S' := fun id => id ∈ ids d.2.1 ∨ id ∈ ids d.2.2.1) fun id => by rw [ixs_keys]
    refine chkA (m := ixs (ids d.2.2.2.1)) s2 (fun h => dup (dup' (.inr (.inl h)))) fun n2 => ?_
    refine addB (m := ixs (ids d.2.2.2.1)) s2 fun e3 rs3 s3 => ?_
    have s3 := s3.congr (S' := fun id => (id ∈ ids d.2.1 ∨ id ∈ ids d.2.2.1) ∨ id ∈ ids d.2.2.2.1) fun id => by rw [ixs_keys]
    refine chkA (m := ixs (ids d.2.2.2.2.1)) s3 (fun h => dup (dup' (.inr (.inr h)))) fun n3 => ?_
    refine addB (m := ixs (ids d.2.2.2.2.1)) s3 fun e4 rs4 s4 => is ?_
    have nd : dupD d = false := by
      rw [Bool.eq_false_iff]
      intro h
      simp only [dupD, dup4, Bool.or_eq_true, List.any_eq_true, memB_iff] at h
      rcases h with (⟨x, hx, h⟩ | ⟨x, hx, h⟩) | ⟨x, hx, h⟩
      · obtain ⟨i, hi, rfl⟩ := ixs_keys.2 hx; exact n1 i hi h
      · obtain ⟨i, hi, rfl⟩ := ixs_keys.2 hx; exact n2 i hi h
      · obtain ⟨i, hi, rfl⟩ := ixs_keys.2 hx; exact n3 i hi h
    unfold formE; rw [notLong, if_neg (by simp), ← he, h, if_neg (by simp), nd, if_neg (by simp)]
end Go.Pv
set_option linter.unusedSimpArgs false
set_option linter.unusedVariables false
set_option maxRecDepth 100000
namespace Go.Pv
open Go Go.Proofs
/-- A function of which nothing is said. -/
def g_nil : List T → Option T := fun _ => none
theorem PureFn.nil {P : Program} {f : FuncId} (h : ∃ fn, P.funcs[f]? = some fn ∧ (fn.name == "runtime.NumGoroutine") = false ∧ fn.body.isNone = false) : PureFn P f g_nil := ⟨h, fun _ _ _ _ _ _ _ _ h => by cases h⟩
theorem mpD_encM (es : MP) : mpD (encM es) = List.map (encE Sy.str false (Sy.int IntKind.i64)) es := by
  unfold mpD encM
  rw [List.map_map]; rfl
theorem getL_ixOf {α : Type} (id : ByteArray) : ∀ (l : List (ByteArray × α)) (i : Nat) (es : MP), (∃ v, getL es id = some v ∧ getL (ixOf (ids l) i es) id = some v) ∨ (getL es id = none ∧ getL (ixOf (ids l) i es) id = none ∧ l.find? (fun s => decide (s.1 = id)) = none) ∨
    (getL es id = none ∧ ∃ k, ∃ h : k < l.length, getL (ixOf (ids l) i es) id = some ((i + k : Nat) : Int) ∧ l.find? (fun s => decide (s.1 = id)) = some l[k])
  | [], i, es => by
    cases h : getL es id with
    | none => exact .inr (.inl ⟨rfl, by simpa [ids, ixOf] using h, rfl⟩)
    | some v => exact .inl ⟨v, rfl, by simpa [ids, ixOf] using h⟩
  | a :: l, i, es => by
    have hs : ids (a :: l) = a.1 :: ids l := rfl
    rw [hs]
    simp only [ixOf]
    have ih := getL_ixOf id l (i + 1) (match getL es a.1 with | none => insL es a.1 (i : Int) | some _ => es)
    by_cases ha : a.1 = id
    · subst ha
      cases hc : getL es a.1 with
      | some v =>
        simp only [hc] at ih ⊢
        rcases ih with ⟨v', h1, h2⟩ | ⟨h1, _⟩ | ⟨h1, _⟩
        · exact .inl ⟨v', h1, h2⟩
        · cases h1
        · cases h1
      | none =>
        simp only [hc] at ih ⊢
        have hg : getL (insL es a.1 (i : Int)) a.1 = some (i : Int) := by rw [getL_ins]; simp
        rw [hg] at ih
        rcases ih with ⟨v', h1, h2⟩ | ⟨h1, _⟩ | ⟨h1, _⟩
        · cases h1
          exact .inr (.inr ⟨by first | rfl | trivial, 0, by simp, by simpa using h2, by simp⟩)
        · cases h1
        · cases h1
    · have hg : getL (match getL es a.1 with | none => insL es a.1 (i : Int) | some _ => es) id = getL es id := by
        cases hc : getL es a.1 with
        | none => simp only [getL_ins, ha, if_false]
        | some v => rfl
      rw [hg] at ih
      rcases ih with ⟨v', h1, h2⟩ | ⟨h1, h2, h3⟩ | ⟨h1, k, hk, h2, h3⟩
      · exact .inl ⟨v', h1, h2⟩
      · exact .inr (.inl ⟨h1, h2, by rw [List.find?_cons_of_neg (by simpa using ha)]; exact h3⟩)
      · exact .inr (.inr ⟨h1, k + 1, by simpa using hk, h2.trans (by congr 2; omega), by rw [List.find?_cons_of_neg (by simpa using ha)]; simpa using h3⟩)
theorem getL_ixs {α : Type} (id : ByteArray) (l : List (ByteArray × α)) : (getL (ixs (ids l)) id = none ∧ l.find? (fun s => decide (s.1 = id)) = none) ∨ (∃ k, ∃ h : k < l.length, getL (ixs (ids l)) id = some (k : Int) ∧ l.find? (fun s => decide (s.1 = id)) = some l[k]) := by
  rcases getL_ixOf id l 0 [] with ⟨v, h, _⟩ | ⟨_, h1, h2⟩ | ⟨_, k, hk, h1, h2⟩
  · cases h
  · exact .inl ⟨h1, h2⟩
  · exact .inr ⟨k, hk, h1.trans (by rw [Nat.zero_add]), h2⟩
/-- One looks into the index of a list. -/
theorem ixK {α : Type} {id : ByteArray} {l : List (ByteArray × α)} {A : Prop} {B : Nat → Int → Prop} (hA : l.find? (fun s => decide (s.1 = id)) = none → A) (hB : ∀ i k (h : k < l.length), l.find? (fun s => decide (s.1 = id)) = some l[k] → B i (k : Int)) :
    findK TypeDesc.string (Value.string id) (mpD (encM (ixs (ids l)))) false (Sy.int IntKind.i64) A B := by
  rw [mpD_encM]
  refine findK_S (r := .int .i64) (fun h => hA ?_) fun i v h => ?_
  · rcases getL_ixs id l with ⟨_, h2⟩ | ⟨k, hk, h1, _⟩
    · exact h2
    · rw [h] at h1; cases h1
  · rcases getL_ixs id l with ⟨h1, _⟩ | ⟨k, hk, h1, h2⟩
    · rw [h] at h1; cases h1
    · rw [h] at h1; cases h1; exact hB i k hk h2
set_option maxRecDepth 100000
def A_tclimb (a0 : TDesign) (m1 : List (ByteArray × Int)) (m2 : List (ByteArray × Int)) (m3 : List (ByteArray × Int)) (m4 : List (ByteArray × Int)) (a5 : ByteArray) : List T := [tRef a0 m1 m2 m3 m4, T.v (Value.string a5)]
noncomputable def E_tclimb : Env := Env.of []
def H_tclimb : FuncId → Hint := fun f => match f == 27 with | true => ⟨fun r => match r == 3 with | true => .inv [.val 1 false .str, .own 6 1 .str, .val 9 false (.int .i64)] | false => .none, fun _ _ => none, fun _ => none⟩ | false => noHint
theorem Eok_tclimb : EnvOk Tryz.prog E_tclimb := EnvOk.nil _
def F_tclimb (a0 : TDesign) (m1 : List (ByteArray × Int)) (m2 : List (ByteArray × Int)) (m3 : List (ByteArray × Int)) (m4 : List (ByteArray × Int)) (a5 : ByteArray) (R : T → Prop) : Prop :=
 loopK (ByteArray × List ByteArray × Int × PUnit)
 (fun (X0 : ByteArray × List ByteArray × Int × PUnit → Prop) (s1 : ByteArray × List ByteArray × Int × PUnit) =>
 iteP (decide (s1.snd.snd.fst < 65))
 (findK TypeDesc.string (Value.string s1.fst) (mpD (encM m1)) false
 (Sy.int IntKind.i64) (R (T.tup [T.sl false [], T.v (Value.bool false)]))
 fun (i2 : Nat) (y3 : Int) =>
 rowsK yNode (List.map yNode.enc a0.snd.fst) y3 fun (y4 : TNode) =>
 reqK
 (decide (((List.map Sy.str.enc s1.snd.fst).length + 1) * 16 ≤ 140737488355328) &&
 decide ((List.map Sy.str.enc s1.snd.fst).length + 1 ≤ 140737488355328))
 (iteP (decide (y4.snd.fst = 1))
 (R
 (T.tup
 [T.sl false (List.map Sy.str.enc s1.snd.fst ++ [[T.v (Value.string s1.fst)]]),
 T.v (Value.bool true)]))
 (decK Sy.str (List.map Sy.str.enc s1.snd.fst ++ [[T.v (Value.string s1.fst)]])
 fun (y5 : List ByteArray) => X0 (y4.snd.snd, y5, IntKind.i64.wrap (s1.snd.snd.fst + 1), ()))))
 (R (T.tup [T.sl false [], T.v (Value.bool false)])))
 (a5, [], 0, ())
theorem F_tclimb_eq (a0 : TDesign) (m1 : List (ByteArray × Int)) (m2 : List (ByteArray × Int)) (m3 : List (ByteArray × Int)) (m4 : List (ByteArray × Int)) (a5 : ByteArray) (R : T → Prop) : sxTop stdC2 Tryz.prog E_tclimb H_tclimb 8 67 (A_tclimb a0 m1 m2 m3 m4 a5) R = F_tclimb a0 m1 m2 m3 m4 a5 R := by kernel_rfl
abbrev r_tclimb : Sh := [(false, Sy.str.li), (false, Sy.bool)]
theorem r_tclimb_call (y : Sh.den r_tclimb) (K : Sh.den r_tclimb → Prop) : callK r_tclimb (some (Sh.enc r_tclimb y)) K = K y := callK_enc rfl y K

theorem A_tclimb_inj (x y : TDesign × MP × MP × MP × MP × ByteArray) (h : A_tclimb x.1 x.2.1 x.2.2.1 x.2.2.2.1 x.2.2.2.2.1 x.2.2.2.2.2 = A_tclimb y.1 y.2.1 y.2.2.1 y.2.2.2.1 y.2.2.2.2.1 y.2.2.2.2.2) : x = y := by
  obtain ⟨h1, h2⟩ := List.cons.inj h
  have := tRef_inj (x := (x.1, x.2.1, x.2.2.1, x.2.2.2.1, x.2.2.2.2.1)) (y := (y.1, y.2.1, y.2.2.1, y.2.2.2.1, y.2.2.2.2.1)) h1
  simp only [List.cons.injEq, T.v.injEq, Value.string.injEq, and_true] at h2
  simp only [Prod.mk.injEq] at this
  obtain ⟨e1, e2, e3, e4, e5⟩ := this
  exact Prod.ext e1 (Prod.ext e2 (Prod.ext e3 (Prod.ext e4 (Prod.ext e5 h2))))
def sp_tclimb (x : TDesign × MP × MP × MP × MP × ByteArray) : Option T := onlyT (x.1, x.2.1, x.2.2.1, x.2.2.2.1, x.2.2.2.2.1) (Sh.enc [(false, .li .str), (false, .bool)] (up x.1 x.2.2.2.2.2))
noncomputable def g_tclimb : List T → Option (T) := gA (fun (x : TDesign × (List (ByteArray × Int)) × (List (ByteArray × Int)) × (List (ByteArray × Int)) × (List (ByteArray × Int)) × ByteArray) => A_tclimb x.1 x.2.1 x.2.2.1 x.2.2.2.1 x.2.2.2.2.1 x.2.2.2.2.2) sp_tclimb
theorem g_tclimb_at (a0 : TDesign) (m1 : List (ByteArray × Int)) (m2 : List (ByteArray × Int)) (m3 : List (ByteArray × Int)) (m4 : List (ByteArray × Int)) (a5 : ByteArray) : g_tclimb (A_tclimb a0 m1 m2 m3 m4 a5) = sp_tclimb (a0, m1, m2, m3, m4, a5) := gA_at (A := (fun (x : TDesign × (List (ByteArray × Int)) × (List (ByteArray × Int)) × (List (ByteArray × Int)) × (List (ByteArray × Int)) × ByteArray) => A_tclimb x.1 x.2.1 x.2.2.1 x.2.2.2.1 x.2.2.2.2.1 x.2.2.2.2.2)) A_tclimb_inj (a0, m1, m2, m3, m4, a5)
theorem of_tclimb (h : ∀ (a0 : TDesign) (m1 : List (ByteArray × Int)) (m2 : List (ByteArray × Int)) (m3 : List (ByteArray × Int)) (m4 : List (ByteArray × Int)) (a5 : ByteArray) (r : T), sp_tclimb (a0, m1, m2, m3, m4, a5) = some r → (∀ t ∈ A_tclimb a0 m1 m2 m3 m4 a5, Bd t) → F_tclimb a0 m1 m2 m3 m4 a5 (fun y => y = r)) : PureFn Tryz.prog 67 g_tclimb :=
  pureFn_A (E := E_tclimb) (Hs := H_tclimb) Eok_tclimb mixed' plain' (noHeap_of rfl) 8 ⟨_, _, Tryz.func67, rfl⟩ fun x r h1 h2 => by
    rw [F_tclimb_eq]
    exact h x.1 x.2.1 x.2.2.1 x.2.2.2.1 x.2.2.2.2.1 x.2.2.2.2.2 r h1 h2

theorem fn_tclimb : PureFn Tryz.prog 67 g_tclimb := of_tclimb fun d m1 m2 m3 m4 id0 r h hb => by
  obtain ⟨hx, hs, rfl⟩ := onlyT_of h
  simp only [Prod.mk.injEq, true_and] at hx
  obtain ⟨rfl, rfl, rfl, rfl⟩ := hx
  clear h
  unfold F_tclimb
  refine loopK_ix 65 (fun k s => ∃ id' l', s = (id', l', (k : Int), ()) ∧ l'.length = k ∧ upF d (65 - k) id' l' = up d id0) ⟨id0, [], rfl, rfl, rfl⟩ ?_
  rintro X k s hk ⟨id', l', rfl, hl, hu⟩ hX
  dsimp only
  have stop : up d id0 = ([], false) → T.tup [T.sl false [], T.v (Value.bool false)] = Sh.enc [(false, .li .str), (false, .bool)] (up d id0) := fun h => by rw [h]; rfl
  refine ifP (fun hlt => ?_) fun hge => stop ?_
  · have hlt : k < 65 := by omega
    obtain ⟨m, hm⟩ : ∃ m, 65 - k = m + 1 := ⟨64 - k, by omega⟩
    rw [hm] at hu
    simp only [upF] at hu
    refine ixK (fun hn => stop ?_) fun i j hj hn => ?_
    · have hn : nodeOf d id' = none := hn
      rw [hn] at hu; exact hu.symm
    · have hn : nodeOf d id' = some d.2.1[j] := hn
      simp only [hn] at hu
      rw [rowsK_at (r := yNode) hj, app_ok (by omega), dec_snoc]
      refine ifP (fun h1 => ?_) fun h1 => ?_
      · rw [if_pos h1] at hu
        rw [← hu, enc_snoc]; rfl
      · rw [if_neg h1] at hu
        exact hX _ hlt ⟨_, _, by rw [show IntKind.i64.wrap ((k : Int) + 1) = ((k + 1 : Nat) : Int) from wrap_id _ (by omega) (by omega)], by simp [hl], by rw [← hu]; congr 1; omega⟩
  · have : 65 - k = 0 := by omega
    rw [this] at hu
    exact hu.symm
/-- The first error of a list's elements. -/
def firstE {α : Type} (f : α → Int) : List α → Int
  | [] => 0
  | a :: l => if f a = 0 then firstE f l else f a
theorem first_loop {r : Sy} {l : List r.den} (f : r.den → Int) (hl : l.length ≤ 140737488355328) {Body : (Int × PUnit → Prop) → Int × PUnit → r.den → Prop} {Exit : Prop}
    (hbody : ∀ (X : Int × PUnit → Prop) (s : Int × PUnit) (y : r.den), y ∈ l → (f y = 0 → X (IntKind.i64.wrap (s.fst + 1), ())) → (f y ≠ 0 → firstE f l = f y) → Body X s y) (hexit : firstE f l = 0 → Exit) :
    loopK (Int × PUnit) (fun (X : Int × PUnit → Prop) (s : Int × PUnit) => iteP (decide (s.fst < ((List.map r.enc l).length : Int))) (rowsK r (List.map r.enc l) s.fst fun y => Body X s y) Exit) (0, ()) := by
  refine loopK_ix l.length (fun k s => s = ((k : Int), ()) ∧ firstE f l = firstE f (l.drop k)) ⟨rfl, by rw [List.drop_zero]⟩ ?_
  rintro X k s hk ⟨rfl, he⟩ hX
  dsimp only
  refine ifP (fun hlt => ?_) fun hge => ?_
  · rw [List.length_map] at hlt
    have hlt : k < l.length := by omega
    rw [rowsK_at hlt]
    have hd : l.drop k = l[k] :: l.drop (k + 1) := List.drop_eq_getElem_cons hlt
    rw [hd, firstE] at he
    refine hbody X _ _ (List.getElem_mem hlt) (fun h0 => ?_) fun h0 => by rw [he, if_neg h0]
    rw [if_pos h0] at he
    exact hX _ hlt ⟨by rw [show IntKind.i64.wrap ((k : Int) + 1) = ((k + 1 : Nat) : Int) from wrap_id _ (by omega) (by omega)], he⟩
  · rw [List.length_map] at hge
    have : k = l.length := by omega
    subst this
    rw [List.drop_length] at he
    exact hexit he
def nodeE (d : TDesign) (n : TNode) : Int := if isId n.1 = false then 6 else if ¬ n.2.1 = 1 ∧ ¬ n.2.1 = 2 then 10 else if n.2.1 = 1 ∧ ¬ n.2.2 = { data := #[] } then 2 else if n.2.1 = 2 ∧ (nodeOf d n.2.2).isNone = true then 8 else 0
def noUp (d : TDesign) : Bool := d.2.1.any fun n => !(up d n.1).2
def deepD (d : TDesign) : Bool := d.2.1.any fun n => decide (8 < (up d n.1).1.length)
def nodesE (d : TDesign) : Int := if firstE (nodeE d) d.2.1 = 0 then (if noUp d = true then 20 else if deepD d = true then 13 else 0) else firstE (nodeE d) d.2.1
set_option maxRecDepth 100000
def A_cNodes (a0 : TDesign) (m1 : List (ByteArray × Int)) (m2 : List (ByteArray × Int)) (m3 : List (ByteArray × Int)) (m4 : List (ByteArray × Int)) : List T := [tRef a0 m1 m2 m3 m4]
noncomputable def E_cNodes : Env := Env.of [(34, .pure g_isId), (67, .pure g_tclimb)]
def H_cNodes : FuncId → Hint := fun f => match f == 43 with | true => ⟨fun r => match r == 2 with | true => .inv [.val 20 false (.int .i64)] | false => match r == 16 with | true => .inv [.val 7 false .bool, .val 74 false (.int .i64)] | false => .none, fun _ _ => none, fun _ => none⟩ | false => noHint
theorem Eok_cNodes : EnvOk Tryz.prog E_cNodes := EnvOk.cons (x := .pure g_isId) fn_isId (EnvOk.cons (x := .pure g_tclimb) fn_tclimb (EnvOk.nil _))
def F_cNodes (a0 : TDesign) (m1 : List (ByteArray × Int)) (m2 : List (ByteArray × Int)) (m3 : List (ByteArray × Int)) (m4 : List (ByteArray × Int)) (R : T → Prop) : Prop :=
 loopK (Int × PUnit)
 (fun (X0 : Int × PUnit → Prop) (s1 : Int × PUnit) =>
 iteP (decide (s1.fst < (↑(List.map yNode.enc a0.snd.fst).length : Int)))
 (rowsK yNode (List.map yNode.enc a0.snd.fst) s1.fst fun (y2 : TNode) =>
 findK TypeDesc.string (Value.string y2.snd.snd) (mpD (encM m1)) false
 (Sy.int IntKind.i64)
 (callK [(false, Sy.bool)] (g_isId [T.v (Value.string y2.fst)]) fun (y6 : Bool) =>
 iteP (!y6) (R (T.v (Value.int IntKind.i64 6)))
 (iteP (!decide (y2.snd.fst = 1))
 (iteP (!decide (y2.snd.fst = 2)) (R (T.v (Value.int IntKind.i64 10)))
 (iteP (decide (y2.snd.fst = 1))
 (iteP (!decide (y2.snd.snd = { data := #[] })) (R (T.v (Value.int IntKind.i64 2)))
 (iteP (decide (y2.snd.fst = 2)) (R (T.v (Value.int IntKind.i64 8)))
 (X0 (IntKind.i64.wrap (s1.fst + 1), ()))))
 (iteP (decide (y2.snd.fst = 2)) (R (T.v (Value.int IntKind.i64 8)))
 (X0 (IntKind.i64.wrap (s1.fst + 1), ())))))
 (iteP (decide (y2.snd.fst = 1))
 (iteP (!decide (y2.snd.snd = { data := #[] })) (R (T.v (Value.int IntKind.i64 2)))
 (iteP (decide (y2.snd.fst = 2)) (R (T.v (Value.int IntKind.i64 8)))
 (X0 (IntKind.i64.wrap (s1.fst + 1), ()))))
 (iteP (decide (y2.snd.fst = 2)) (R (T.v (Value.int IntKind.i64 8)))
 (X0 (IntKind.i64.wrap (s1.fst + 1), ()))))))
 fun (i3 : Nat) (y4 : Int) =>
 callK [(false, Sy.bool)] (g_isId [T.v (Value.string y2.fst)]) fun (y5 : Bool) =>
 iteP (!y5) (R (T.v (Value.int IntKind.i64 6)))
 (iteP (!decide (y2.snd.fst = 1))
 (iteP (!decide (y2.snd.fst = 2)) (R (T.v (Value.int IntKind.i64 10)))
 (iteP (decide (y2.snd.fst = 1))
 (iteP (!decide (y2.snd.snd = { data := #[] })) (R (T.v (Value.int IntKind.i64 2)))
 (iteP (decide (y2.snd.fst = 2)) (X0 (IntKind.i64.wrap (s1.fst + 1), ()))
 (X0 (IntKind.i64.wrap (s1.fst + 1), ()))))
 (iteP (decide (y2.snd.fst = 2)) (X0 (IntKind.i64.wrap (s1.fst + 1), ()))
 (X0 (IntKind.i64.wrap (s1.fst + 1), ())))))
 (iteP (decide (y2.snd.fst = 1))
 (iteP (!decide (y2.snd.snd = { data := #[] })) (R (T.v (Value.int IntKind.i64 2)))
 (iteP (decide (y2.snd.fst = 2)) (X0 (IntKind.i64.wrap (s1.fst + 1), ()))
 (X0 (IntKind.i64.wrap (s1.fst + 1), ()))))
 (iteP (decide (y2.snd.fst = 2)) (X0 (IntKind.i64.wrap (s1.fst + 1), ()))
 (X0 (IntKind.i64.wrap (s1.fst + 1), ()))))))
 (loopK (Bool × Int × PUnit)
 (fun (X7 : Bool × Int × PUnit → Prop) (s8 : Bool × Int × PUnit) =>
 iteP (decide (s8.snd.fst < (↑(List.map yNode.enc a0.snd.fst).length : Int)))
 (rowsK yNode (List.map yNode.enc a0.snd.fst) s8.snd.fst fun (y9 : TNode) =>
 callK [(false, Sy.str.li), (false, Sy.bool)]
 (g_tclimb
 [T.ref
 [T.ref
 [T.v (Value.string a0.fst), T.sl false (List.map yNode.enc a0.snd.fst),
 T.sl false (List.map yPart.enc a0.snd.snd.fst),
 T.sl false (List.map ySeam.enc a0.snd.snd.snd.fst),
 T.sl false (List.map yPackage.enc a0.snd.snd.snd.snd.fst),
 T.sl false (List.map yNeed.enc a0.snd.snd.snd.snd.snd)],
 T.mp (encM m1), T.mp (encM m2), T.mp (encM m3),
 T.mp (encM m4)],
 T.v (Value.string y9.fst)])
 fun (y10 : List ByteArray × Bool) =>
 iteP (!y10.snd) (R (T.v (Value.int IntKind.i64 20)))
 (iteP s8.fst (X7 (true, IntKind.i64.wrap (s8.snd.fst + 1), ()))
 (X7
 (decide (8 < (↑(List.map Sy.str.enc y10.fst).length : Int)),
 IntKind.i64.wrap (s8.snd.fst + 1), ()))))
 (iteP s8.fst (R (T.v (Value.int IntKind.i64 13)))
 (R (T.v (Value.int IntKind.i64 0)))))
 (false, 0, ())))
 (0, ())
theorem F_cNodes_eq (a0 : TDesign) (m1 : List (ByteArray × Int)) (m2 : List (ByteArray × Int)) (m3 : List (ByteArray × Int)) (m4 : List (ByteArray × Int)) (R : T → Prop) : sxTop stdC2 Tryz.prog E_cNodes H_cNodes 8 43 (A_cNodes a0 m1 m2 m3 m4) R = F_cNodes a0 m1 m2 m3 m4 R := by kernel_rfl
abbrev r_cNodes : Sh := [(false, Sy.int IntKind.i64)]
theorem r_cNodes_call (y : Sh.den r_cNodes) (K : Sh.den r_cNodes → Prop) : callK r_cNodes (some (Sh.enc r_cNodes y)) K = K y := callK_enc rfl y K

theorem A_cNodes_inj (x y : TDesign × MP × MP × MP × MP) (h : A_cNodes x.1 x.2.1 x.2.2.1 x.2.2.2.1 x.2.2.2.2 = A_cNodes y.1 y.2.1 y.2.2.1 y.2.2.2.1 y.2.2.2.2) : x = y := tRef_inj (List.cons.inj h).1
def sp_cNodes (x : TDesign × MP × MP × MP × MP) : Option T := onlyT x (T.v (Value.int .i64 (nodesE x.1)))
noncomputable def g_cNodes : List T → Option (T) := gA (fun (x : TDesign × (List (ByteArray × Int)) × (List (ByteArray × Int)) × (List (ByteArray × Int)) × List (ByteArray × Int)) => A_cNodes x.1 x.2.1 x.2.2.1 x.2.2.2.1 x.2.2.2.2) sp_cNodes
theorem g_cNodes_at (a0 : TDesign) (m1 : List (ByteArray × Int)) (m2 : List (ByteArray × Int)) (m3 : List (ByteArray × Int)) (m4 : List (ByteArray × Int)) : g_cNodes (A_cNodes a0 m1 m2 m3 m4) = sp_cNodes (a0, m1, m2, m3, m4) := gA_at (A := (fun (x : TDesign × (List (ByteArray × Int)) × (List (ByteArray × Int)) × (List (ByteArray × Int)) × List (ByteArray × Int)) => A_cNodes x.1 x.2.1 x.2.2.1 x.2.2.2.1 x.2.2.2.2)) A_cNodes_inj (a0, m1, m2, m3, m4)
theorem of_cNodes (h : ∀ (a0 : TDesign) (m1 : List (ByteArray × Int)) (m2 : List (ByteArray × Int)) (m3 : List (ByteArray × Int)) (m4 : List (ByteArray × Int)) (r : T), sp_cNodes (a0, m1, m2, m3, m4) = some r → (∀ t ∈ A_cNodes a0 m1 m2 m3 m4, Bd t) → F_cNodes a0 m1 m2 m3 m4 (fun y => y = r)) : PureFn Tryz.prog 43 g_cNodes :=
  pureFn_A (E := E_cNodes) (Hs := H_cNodes) Eok_cNodes mixed' plain' (noHeap_of rfl) 8 ⟨_, _, Tryz.func43, rfl⟩ fun x r h1 h2 => by
    rw [F_cNodes_eq]
    exact h x.1 x.2.1 x.2.2.1 x.2.2.2.1 x.2.2.2.2 r h1 h2

theorem g_tclimb_ok {d : TDesign} (hs : SmallD d) (id : ByteArray) : g_tclimb (A_tclimb d (ixs (ids d.2.1)) (ixs (ids d.2.2.1)) (ixs (ids d.2.2.2.1)) (ixs (ids d.2.2.2.2.1)) id) = some (Sh.enc [(false, .li .str), (false, .bool)] (up d id)) := by
  rw [g_tclimb_at]; exact onlyT_ok hs _
theorem isId_call (s : ByteArray) (K : Bool → Prop) : callK [(false, Sy.bool)] (g_isId [T.v (Value.string s)]) K = K (isId s) := by
  rw [show g_isId [T.v (Value.string s)] = sp_isId s from g_isId_at]
  exact r_isId_call _ K
theorem fn_cNodes : PureFn Tryz.prog 43 g_cNodes := of_cNodes fun d m1 m2 m3 m4 r h hb => by
  obtain ⟨hx, hs, rfl⟩ := onlyT_of h
  simp only [Prod.mk.injEq, true_and] at hx
  obtain ⟨rfl, rfl, rfl, rfl⟩ := hx
  clear h
  have is : ∀ {n : Int}, nodesE d = n → T.v (Value.int IntKind.i64 n) = T.v (Value.int IntKind.i64 (nodesE d)) := fun h => by rw [h]
  unfold F_cNodes
  refine first_loop (r := yNode) (nodeE d) hs.n (fun X s y hy hok hbad => ?_) fun h0 => ?_
  · have bad : ∀ {n : Int}, n ≠ 0 → nodeE d y = n → T.v (Value.int IntKind.i64 n) = T.v (Value.int IntKind.i64 (nodesE d)) := fun hn h => is (by
      have := hbad (by rw [h]; exact hn)
      unfold nodesE
      rw [if_neg (by rw [this, h]; exact hn), this, h])
    have tail : ∀ {Z2 Z : Prop}, isId y.1 = true → (y.2.1 = 2 → Z2) → (nodeE d y = 0 → Z) → 
      iteP (!decide (y.snd.fst = 1))
                (iteP (!decide (y.snd.fst = 2)) (T.v (Value.int IntKind.i64 10) = T.v (Value.int IntKind.i64 (nodesE d)))
                  (iteP (decide (y.snd.fst = 1))
                    (iteP (!decide (y.snd.snd = { data := #[] })) (T.v (Value.int IntKind.i64 2) = T.v (Value.int IntKind.i64 (nodesE d)))
                      (iteP (decide (y.snd.fst = 2)) Z2 Z))
                    (iteP (decide (y.snd.fst = 2)) Z2 Z)))
                (iteP (decide (y.snd.fst = 1))
                  (iteP (!decide (y.snd.snd = { data := #[] })) (T.v (Value.int IntKind.i64 2) = T.v (Value.int IntKind.i64 (nodesE d)))
                    (iteP (decide (y.snd.fst = 2)) Z2 Z))
                  (iteP (decide (y.snd.fst = 2)) Z2 Z)) := by
      intro Z2 Z hid h2 h1
      refine ifQ (fun g1 => ?_) fun g1 => ?_
      · refine ifQ (fun g2 => bad (by decide) (by unfold nodeE; rw [if_neg (by simp [hid]), if_pos ⟨g1, g2⟩])) fun g2 => ?_
        refine ifP (fun h => absurd h g1) fun _ => ?_
        exact ifP (fun _ => h2 g2) fun h => absurd g2 h
      · refine ifP (fun _ => ?_) fun h => absurd g1 h
        refine ifQ (fun g3 => bad (by decide) (by unfold nodeE; rw [if_neg (by simp [hid]), if_neg (by simp [g1]), if_pos ⟨g1, g3⟩])) fun g3 => ?_
        exact ifP (fun h => by rw [g1] at h; cases h) fun h => h1 (by unfold nodeE; rw [if_neg (by simp [hid]), if_neg (by simp [g1]), if_neg (by simp [g3]), if_neg (by simp [h])])
    refine ixK (fun hn => ?_) fun i j hj hn => ?_
    · have hn : nodeOf d y.2.2 = none := hn
      rw [isId_call]
      refine ifNB (fun hid => bad (by decide) (by unfold nodeE; rw [if_pos hid])) fun hid => ?_
      refine tail hid (fun h2 => bad (by decide) ?_) fun h0 => hok h0
      unfold nodeE; rw [if_neg (by simp [hid]), if_neg (by simp [h2]), if_neg (by simp [h2]), if_pos ⟨h2, by rw [hn]; rfl⟩]
    · have hn : nodeOf d y.2.2 = some d.2.1[j] := hn
      rw [isId_call]
      refine ifNB (fun hid => bad (by decide) (by unfold nodeE; rw [if_pos hid])) fun hid => ?_
      refine tail hid (fun h2 => hok ?_) fun h0 => hok h0
      unfold nodeE; rw [if_neg (by simp [hid]), if_neg (by simp [h2]), if_neg (by simp [h2]), if_neg (by simp [hn])]
  · have hn : d.2.1.length ≤ 140737488355328 := hs.n
    refine loopK_ix d.2.1.length (fun k s => s = ((d.2.1.take k).any (fun n => decide (8 < (up d n.1).1.length)), (k : Int), ()) ∧ ∀ n ∈ d.2.1.take k, (up d n.1).2 = true) ⟨rfl, by simp⟩ ?_
    rintro X k s hk ⟨rfl, hall⟩ hX
    dsimp only
    refine ifP (fun hlt => ?_) fun hge => ?_
    · rw [List.length_map] at hlt
      have hlt : k < d.2.1.length := by omega
      rw [rowsK_at (r := yNode) hlt]
      refine callK_some (s := [(false, .li .str), (false, .bool)]) (g_tclimb_ok hs d.2.1[k].1) ?_
      have ht : d.2.1.take (k + 1) = d.2.1.take k ++ [d.2.1[k]] := List.take_succ_eq_append_getElem hlt
      have hw : IntKind.i64.wrap ((k : Int) + 1) = ((k + 1 : Nat) : Int) := wrap_id _ (by omega) (by omega)
      refine ifNB (fun hu => is ?_) fun hu => ?_
      · unfold nodesE
        rw [if_pos h0, if_pos (show noUp d = true from List.any_eq_true.2 ⟨_, List.getElem_mem hlt, by rw [hu]; rfl⟩)]
      · have hall' : ∀ n ∈ d.2.1.take (k + 1), (up d n.1).2 = true := fun n hm => by
          rw [ht] at hm
          rcases List.mem_append.1 hm with h | h
          · exact hall n h
          · simp at h; subst h; exact hu
        refine ifB (fun hd => ?_) fun hd => ?_
        · refine hX _ hlt ⟨?_, hall'⟩
          rw [hw, ht, List.any_append, hd]; rfl
        · refine hX _ hlt ⟨?_, hall'⟩
          rw [hw, ht, List.any_append, hd]
          simp only [List.length_map, List.any_cons, List.any_nil, Bool.or_false, Bool.false_or, Prod.mk.injEq, and_true]
          congr 1
          exact propext ⟨fun h => by omega, fun h => by omega⟩
    · rw [List.length_map] at hge
      have : k = d.2.1.length := by omega
      subst this
      rw [List.take_length] at hall ⊢
      have hnu : noUp d = false := by
        rw [Bool.eq_false_iff]; intro h
        obtain ⟨n, hm, h⟩ := List.any_eq_true.1 h
        rw [hall n hm] at h; cases h
      refine ifB (fun h => is ?_) fun h => is ?_
      · unfold nodesE; rw [if_pos h0, hnu, if_neg (by simp), if_pos (show deepD d = true from h)]
      · unfold nodesE; rw [if_pos h0, hnu, if_neg (by simp), if_neg (by rw [show deepD d = false from h]; simp)]
end Go.Pv
