/-
  PanelJobs: what Jobs computes.
-/
import Derived.Test.YtglbgioimibmjaaGreatDoorPmg
import Derived.Test.YtglbgioimibmjaaGreatDoorPmf
set_option linter.unusedSimpArgs false
set_option linter.unusedVariables false
set_option maxRecDepth 100000
namespace Go.Pv
open Go Go.Proofs
theorem mins39_call (p : TPanel) (x : TLine) (K : List Int × Int → Prop) : callK [(false, (Sy.int IntKind.i64).li), (false, Sy.int IntKind.i64)] (g_mins39 [encV true yPanel p, encV true yLine x]) K = K (mins (p, x)) := by
  rw [g_mins39_at]
  exact r_mins39_call _ K
theorem fn_same37 : PureFn Tryz.prog 27 g_same37 := of_same37 fun a b r h hb => by
  cases h
  have hl : a.length ≤ 2 ^ 47 := hb.1.1
  have is : ∀ {n : Bool}, decide (a = b) = n → T.v (Value.bool n) = Sh.enc r_same37 (decide (a = b)) := fun h => by rw [h]; rfl
  unfold F_same37
  simp only [List.length_map]
  refine ifN (fun h => is (by rw [decide_eq_false]; rintro rfl; exact h rfl)) fun h1 => ?_
  have h1 : a.length = b.length := by omega
  refine loopK_ix a.length (fun k s => s = ((k : Int), ()) ∧ decide (a = b) = decide (a.drop k = b.drop k)) ⟨rfl, by simp only [List.drop_zero]⟩ ?_
  rintro X k s hk ⟨rfl, he⟩ hX
  dsimp only
  refine ifD (fun hlt => ?_) (fun hge => ?_)
  · have hlt : k < a.length := by omega
    have e : IntKind.i64.wrap ((k : Int) + 1) = ((k + 1 : Nat) : Int) := wrap_id _ (by omega) (by omega)
    rw [List.drop_eq_getElem_cons hlt, List.drop_eq_getElem_cons (show k < b.length by omega)] at he
    rw [rowsK_at (r := .int .i64) hlt, rowsK_at (r := .int .i64) (show k < b.length by omega)]
    refine ifN (fun h => is ?_) fun h => hX _ hlt ⟨by rw [e], ?_⟩
    · rw [he]; exact decide_eq_false fun e => h (List.cons.inj e).1
    · rw [he]; exact decide_eq_decide.2 ⟨fun e => (List.cons.inj e).2, fun e => by rw [h, e]⟩
  · have : k = a.length := by omega
    subst this
    exact is (by rw [he]; simp [h1])
def rowOf (x : TLine) (p : TPanel) : List Int := minL p x.1 x.2.1 x.2.2.1 x.2.2.2
theorem jobs_loop {l : List TPanel} {x : TLine} {G : List T → Option T} {R : T → Prop} (hl : l.length ≤ 40) (hc : chk x = 0)
    (hG : ∀ (p : TPanel) (K : List Int × Int → Prop), callK [(false, (Sy.int IntKind.i64).li), (false, Sy.int IntKind.i64)] (G [encV true yPanel p, encV true yLine x]) K = K (mins (p, x)))
    (hbad : l.all okP = false → R (T.tup [T.sl false [], T.v (Value.int IntKind.i64 9)]))
    (hgood : l.all okP = true → R (T.tup [T.sl false (List.map (Sy.int IntKind.i64).li.enc (l.map (rowOf x))), T.v (Value.int IntKind.i64 0)])) :
    loopK (Int × List (List Int) × PUnit)
      (fun (X1 : Int × List (List Int) × PUnit → Prop) (s2 : Int × List (List Int) × PUnit) =>
        iteP (decide (s2.fst < ((List.map yPanel.enc l).length : Int)))
          (rowsK yPanel (List.map yPanel.enc l) s2.fst fun (y3 : TPanel) =>
            callK [(false, (Sy.int IntKind.i64).li), (false, Sy.int IntKind.i64)]
              (G [encV true yPanel y3, encV true yLine x])
              fun (y4 : List Int × Int) =>
              iteP (!decide (y4.snd = 0))
                (R (T.tup [T.sl false [], T.v (Value.int IntKind.i64 y4.snd)]))
                (reqK
                  (decide (((List.map (Sy.int IntKind.i64).li.enc s2.snd.fst).length + 1) * 24 ≤ 140737488355328) &&
                    decide ((List.map (Sy.int IntKind.i64).li.enc s2.snd.fst).length + 1 ≤ 140737488355328))
                  (decK (Sy.int IntKind.i64).li
                    (List.map (Sy.int IntKind.i64).li.enc s2.snd.fst ++ [[T.sl false (List.map (Sy.int IntKind.i64).enc y4.fst)]])
                    fun (y5 : List (List Int)) => X1 (IntKind.i64.wrap (s2.fst + 1), y5, ()))))
          (R (T.tup [T.sl false (List.map (Sy.int IntKind.i64).li.enc s2.snd.fst), T.v (Value.int IntKind.i64 0)])))
      (0, [], ()) := by
  refine loopK_ix l.length (fun k s => s = ((k : Int), (l.take k).map (rowOf x), ()) ∧ l.all okP = (l.drop k).all okP) ⟨rfl, by rw [List.drop_zero]⟩ ?_
  rintro X k s hk ⟨rfl, he⟩ hX
  dsimp only
  rw [List.length_map]
  refine ifD (fun hlt => ?_) fun hge => ?_
  · have hlt : k < l.length := by omega
    have e : IntKind.i64.wrap ((k : Int) + 1) = ((k + 1 : Nat) : Int) := wrap_id _ (by omega) (by omega)
    rw [all_dropI hlt] at he
    rw [rowsK_at (r := yPanel) hlt, hG]
    cases hp : okP l[k] with
    | false =>
      rw [mins_bad hc hp]
      refine ifN (fun _ => hbad (by rw [he, hp, Bool.false_and])) fun h => absurd h (by decide)
    | true =>
      rw [mins_good hc hp]
      dsimp only
      refine ifN (fun h => absurd (by first | rfl | trivial) h) fun _ => ?_
      rw [reqK_def]
      refine ⟨by simp only [List.length_map, List.length_take, Bool.and_eq_true, decide_eq_true_eq]; omega, ?_⟩
      rw [decK_snoc (r := (Sy.int IntKind.i64).li) rfl ((l.take k).map (rowOf x)) _ (rowOf x l[k]) rfl]
      refine hX _ hlt ⟨?_, by rw [he, hp, Bool.true_and]⟩
      rw [e, List.take_add_one, List.getElem?_eq_getElem hlt, List.map_append]
      rfl
  · have : k = l.length := by omega
    subst this
    rw [List.take_length]
    exact hgood (by rw [he]; simp)
end Go.Pv
