/-
  Words that several files share.
-/
import Derived.Test.YtghdgefkfgikoaaGreatDoorPsc
set_option linter.unusedSimpArgs false
set_option linter.unusedVariables false
set_option maxRecDepth 100000
namespace Go.Pv
open Go Go.Proofs
abbrev pKind (p : TPart) : Int := p.2.2.1
abbrev pNode (p : TPart) : ByteArray := p.2.2.2.1
abbrev pThick (p : TPart) : Int := p.2.2.2.2.2.1
abbrev pSec (p : TPart) : ByteArray := p.2.2.2.2.2.2.2.1
def onlyD (d : TDesign) (t : T) : Option T := match okD d with
  | true => some t
  | false => none
abbrev r_ib : Sh := [(false, .int .i64), (false, .bool)]
abbrev r_b : Sh := [(false, .bool)]
theorem onlyD_of {d : TDesign} {t r : T} (h : onlyD d t = some r) : okD d = true ∧ r = t := by
  unfold onlyD at h; split at h
  · cases h; exact ⟨by assumption, rfl⟩
  · cases h
theorem onlyD_ok {d : TDesign} (t : T) (h : okD d = true) : onlyD d t = some t := by unfold onlyD; rw [h]
theorem iteP_yes {p : Prop} {i : Decidable p} (h : p) {A B : Prop} (ha : A) : iteP (@decide p i) A B := by rw [show @decide p i = true from decide_eq_true h]; exact ha
theorem iteP_no {p : Prop} {i : Decidable p} (h : ¬ p) {A B : Prop} (hb : B) : iteP (@decide p i) A B := by rw [show @decide p i = false from decide_eq_false h]; exact hb
theorem iteP_nyes {p : Prop} {i : Decidable p} (h : p) {A B : Prop} (hb : B) : iteP (!(@decide p i)) A B := by rw [show @decide p i = true from decide_eq_true h]; exact hb
theorem iteP_nno {p : Prop} {i : Decidable p} (h : ¬ p) {A B : Prop} (ha : A) : iteP (!(@decide p i)) A B := by rw [show @decide p i = false from decide_eq_false h]; exact ha
theorem ifP {p : Prop} {i : Decidable p} {A B : Prop} (h1 : p → A) (h2 : ¬ p → B) : iteP (@decide p i) A B := by
  by_cases h : p
  · rw [decide_eq_true h]; exact h1 h
  · rw [decide_eq_false h]; exact h2 h
theorem ifQ {p : Prop} {i : Decidable p} {A B : Prop} (h1 : ¬ p → A) (h2 : p → B) : iteP (!(@decide p i)) A B := by
  by_cases h : p
  · rw [decide_eq_true h]; exact h2 h
  · rw [decide_eq_false h]; exact h1 h
theorem ifB {c : Bool} {A B : Prop} (h1 : c = true → A) (h2 : c = false → B) : iteP c A B := by cases c with
  | true => exact h1 rfl
  | false => exact h2 rfl
theorem ifNB {c : Bool} {A B : Prop} (h1 : c = false → A) (h2 : c = true → B) : iteP (!c) A B := by cases c with
  | true => exact h2 rfl
  | false => exact h1 rfl
def firstE {α : Type} (f : α → Int) : List α → Int
  | [] => 0
  | a :: l => if f a = 0 then firstE f l else f a
theorem first_loop {r : Sy} {l : List r.den} (f : r.den → Int) (hl : l.length ≤ 140737488355328) {Body : (Int × PUnit → Prop) → Int × PUnit → r.den → Prop} {Exit : Prop}
    (hbody : ∀ (X : Int × PUnit → Prop) (s : Int × PUnit) (y : r.den), y ∈ l → (f y = 0 → X (IntKind.i64.wrap (s.fst + 1), ())) → (f y ≠ 0 → firstE f l = f y) → Body X s y) (hexit : firstE f l = 0 → Exit) :
    loopK (Int × PUnit) (fun (X : Int × PUnit → Prop) (s : Int × PUnit) => iteP (decide (s.fst < ((List.map r.enc l).length : Int))) (rowsK r (List.map r.enc l) s.fst fun y => Body X s y) Exit) (0, ()) := by
  refine loopK_ix l.length (fun k s => s = ((k : Int), ()) ∧ firstE f l = firstE f (l.drop k)) ⟨rfl, by rw [List.drop_zero]⟩ ?_
  rintro X k s hk ⟨rfl, he⟩ hX
  dsimp only
  refine ifP (fun hlt => ?_) fun hge => ?_
  · rw [List.length_map] at hlt
    have hlt : k < l.length := by omega
    rw [rowsK_at hlt]
    have hd : l.drop k = l[k] :: l.drop (k + 1) := List.drop_eq_getElem_cons hlt
    rw [hd, firstE] at he
    refine hbody X _ _ (List.getElem_mem hlt) (fun h0 => ?_) fun h0 => by rw [he, if_neg h0]
    rw [if_pos h0] at he
    exact hX _ hlt ⟨by rw [show IntKind.i64.wrap ((k : Int) + 1) = ((k + 1 : Nat) : Int) from wrap_id _ (by omega) (by omega)], he⟩
  · rw [List.length_map] at hge
    have : k = l.length := by omega
    subst this
    rw [List.drop_length] at he
    exact hexit he
end Go.Pv
