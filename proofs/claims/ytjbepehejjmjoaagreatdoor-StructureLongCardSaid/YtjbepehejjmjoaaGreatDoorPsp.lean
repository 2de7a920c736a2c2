/-
  Words that several files share.
-/
import Derived.Test.YtjbepehejjmjoaaGreatDoorPsc
set_option linter.unusedSimpArgs false
set_option linter.unusedVariables false
set_option maxRecDepth 100000
namespace Go.Pv
open Go Go.Proofs
abbrev pKind (p : TPart) : Int := p.2.2.1
abbrev pNode (p : TPart) : ByteArray := p.2.2.2.1
abbrev pThick (p : TPart) : Int := p.2.2.2.2.2.1
abbrev pSec (p : TPart) : ByteArray := p.2.2.2.2.2.2.2.1
def onlyD (d : TDesign) (t : T) : Option T := match okD d with
  | true => some t
  | false => none
abbrev r_ib : Sh := [(false, .int .i64), (false, .bool)]
abbrev r_b : Sh := [(false, .bool)]
theorem onlyD_of {d : TDesign} {t r : T} (h : onlyD d t = some r) : okD d = true ∧ r = t := by
  unfold onlyD at h; split at h
  · cases h; exact ⟨by assumption, rfl⟩
  · cases h
theorem onlyD_ok {d : TDesign} (t : T) (h : okD d = true) : onlyD d t = some t := by unfold onlyD; rw [h]
theorem iteP_yes {p : Prop} {i : Decidable p} (h : p) {A B : Prop} (ha : A) : iteP (@decide p i) A B := by rw [show @decide p i = true from decide_eq_true h]; exact ha
theorem iteP_no {p : Prop} {i : Decidable p} (h : ¬ p) {A B : Prop} (hb : B) : iteP (@decide p i) A B := by rw [show @decide p i = false from decide_eq_false h]; exact hb
theorem iteP_nyes {p : Prop} {i : Decidable p} (h : p) {A B : Prop} (hb : B) : iteP (!(@decide p i)) A B := by rw [show @decide p i = true from decide_eq_true h]; exact hb
theorem iteP_nno {p : Prop} {i : Decidable p} (h : ¬ p) {A B : Prop} (ha : A) : iteP (!(@decide p i)) A B := by rw [show @decide p i = false from decide_eq_false h]; exact ha
end Go.Pv
