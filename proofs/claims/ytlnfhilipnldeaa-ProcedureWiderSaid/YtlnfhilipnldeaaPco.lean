/-
  slices.Contains of strings.
-/
import Derived.Test.YtlnfhilipnldeaaPsp
set_option linter.unusedSimpArgs false
set_option linter.unusedVariables false
set_option maxRecDepth 100000
namespace Go.Pv
open Go Go.Proofs
def hasS (l : List ByteArray) (x : ByteArray) : Bool := l.any fun y => decide (y = x)
def sp_contains (x : List ByteArray × ByteArray) : Option T := some (Sh.enc r_b (hasS x.1 x.2))
set_option maxRecDepth 100000
noncomputable def E_contains : Env := Env.of []
def H_contains : FuncId → Hint := fun f => match f == 29 with | true => ⟨fun r => match r == 2 with | true => .inv [.val 8 false (.int .i64)] | false => .none, fun _ _ => none, fun _ => none⟩ | false => noHint
theorem Eok_contains : EnvOk Try.prog E_contains := EnvOk.nil _
def F_contains (a0 : List ByteArray) (a1 : ByteArray) (R : T → Prop) : Prop :=
  loopK (Int × PUnit)
  (fun (X0 : Int × PUnit → Prop) (s1 : Int × PUnit) =>
    iteP (decide (s1.fst < (↑(List.map Sy.str.enc a0).length : Int)))
      (rowsK Sy.str (List.map Sy.str.enc a0) s1.fst fun (y2 : ByteArray) =>
        iteP (decide (a1 = y2)) (R (T.v (Value.bool (decide (0 ≤ s1.fst)))))
          (X0 (IntKind.i64.wrap (s1.fst + 1), ())))
      (R (T.v (Value.bool false))))
  (0, ())
theorem F_contains_eq (a0 : List ByteArray) (a1 : ByteArray) (R : T → Prop) : sxTop stdC2 Try.prog E_contains H_contains 8 23 [encV false Sy.str.li a0, encV false Sy.str a1] R = F_contains a0 a1 R := by kernel_rfl
abbrev s_contains : Sh := [(false, Sy.str.li), (false, Sy.str)]
abbrev r_contains : Sh := [(false, Sy.bool)]
theorem r_contains_call (y : Sh.den r_contains) (K : Sh.den r_contains → Prop) : callK r_contains (some (Sh.enc r_contains y)) K = K y := callK_enc rfl y K

noncomputable def g_contains : List T → Option (T) := gS s_contains sp_contains
theorem g_contains_at {a0 : List ByteArray} {a1 : ByteArray} : g_contains [T.sl false (List.map Sy.str.enc a0), T.v (Value.string a1)] = sp_contains (a0, a1) := gS_enc (s := s_contains) rfl (a0, a1) rfl
theorem g_contains_op {u0 u1} : g_contains [T.sl false (List.map Sy.str.enc u0), T.v (Value.string u1)] = sp_contains (u0, u1) := gS_enc (s := s_contains) rfl (u0, u1) rfl
theorem of_contains (h : ∀ (a0 : List ByteArray) (a1 : ByteArray) (r : T), sp_contains (a0, a1) = some r → BdSh s_contains (a0, a1) → F_contains a0 a1 (fun y => y = r)) : PureFn Try.prog 23 g_contains :=
  pureFn_S (E := E_contains) (Hs := H_contains) Eok_contains mixed' plain' (noHeap_of rfl) 8 ⟨_, _, Try.func23, rfl⟩ rfl fun x r h1 h2 => by
    obtain ⟨a0, a1⟩ := x
    rw [show Sh.encs s_contains (a0, a1) = [encV false Sy.str.li a0, encV false Sy.str a1] from rfl, F_contains_eq]
    exact h a0 a1 r h1 h2

theorem any_drop {α : Type} {p : α → Bool} {l : List α} {k : Nat} (h : k < l.length) : (l.drop k).any p = (p l[k] || (l.drop (k + 1)).any p) := by rw [List.drop_eq_getElem_cons h, List.any_cons]
theorem fn_contains : PureFn Try.prog 23 g_contains := of_contains fun l x r h hb => by
  have h' : some (Sh.enc r_b (hasS l x)) = some r := h
  cases h'
  clear h
  have hl : l.length ≤ 2 ^ 47 := hb.1.1
  unfold F_contains
  refine loopK_ix l.length (fun k s => s = ((k : Int), ()) ∧ hasS l x = (l.drop k).any fun y => decide (y = x)) ⟨rfl, rfl⟩ ?_
  rintro X k s hk ⟨rfl, he⟩ hX
  dsimp only
  by_cases hlt : k < l.length
  · rw [any_drop hlt] at he
    refine iteP_yes (by simp [hlt]) ?_
    rw [rowsK_at (r := .str) hlt]
    by_cases h1 : l[k] = x
    · refine iteP_yes h1.symm ?_
      rw [he, decide_eq_true h1]
      simp [Sh.enc, encV, Sy.enc, hdT]
    · refine iteP_no (fun e => h1 e.symm) ?_
      rw [decide_eq_false h1, Bool.false_or] at he
      exact hX _ hlt ⟨by rw [show IntKind.i64.wrap ((k : Int) + 1) = ((k + 1 : Nat) : Int) from wrap_id _ (by omega) (by omega)], he⟩
  · have : k = l.length := by omega
    subst this
    refine iteP_no (by simp) ?_
    rw [he]
    simp [Sh.enc, encV, Sy.enc, hdT]
end Go.Pv
