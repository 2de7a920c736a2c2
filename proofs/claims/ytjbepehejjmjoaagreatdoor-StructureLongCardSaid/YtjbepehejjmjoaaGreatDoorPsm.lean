/-
  strings.Split on typed data.
-/
import Derived.Test.YtjbepehejjmjoaaGreatDoorPsa
import Derived.Test.YtjbepehejjmjoaaGreatDoorPgs
import Derived.Test.YtjbepehejjmjoaaGreatDoorPsl
set_option linter.unusedSimpArgs false
set_option linter.unusedVariables false
set_option maxRecDepth 100000
namespace Go.Pv
open Go Go.Proofs
abbrev q_b : Sh := [(false, .bool)]
abbrev q_ls : Sh := [(false, .li .str)]
def sp_split (x : ByteArray × ByteArray) : Option T := match decide (x.1.size < 4294967281), decide (1 ≤ x.2.size) with
  | true, true => some (Sh.enc q_ls (Lib.splitB x.2 0 (Lib.countB x.1 x.2) x.1))
  | _, _ => none
noncomputable def g_splitS : List T → Option T := gS [(false, .str), (false, .str)] sp_split
theorem g_splitS_at {a b : ByteArray} : g_splitS [T.v (Value.string a), T.v (Value.string b)] = sp_split (a, b) := gS_enc (s := [(false, .str), (false, .str)]) rfl (a, b) rfl
theorem fn_splitS : PureFn Tryz.prog 99 g_splitS := by
  refine ⟨fn_split.entry, fun w own args vs r hG ho ha hg => ?_⟩
  obtain ⟨⟨a, b⟩, rfl, hx⟩ := gS_spec hg
  unfold sp_split at hx
  split at hx
  · rename_i h1 h2
    cases hx
    have hs : gSplit [.v (.string a), .v (.string b)] = some (.sl true ((Lib.splitB b 0 (Lib.countB a b) a).map fun x => [.v (.string x)])) := by
      unfold gSplit
      simp only [h1, h2]
    refine (fn_split.calls w own _ vs _ hG ho ha hs).mono ?_
    rintro e w' ⟨v, rfl, hr, hb⟩
    exact ⟨v, rfl, hr.canon 0, hb⟩
  · cases hx
end Go.Pv
