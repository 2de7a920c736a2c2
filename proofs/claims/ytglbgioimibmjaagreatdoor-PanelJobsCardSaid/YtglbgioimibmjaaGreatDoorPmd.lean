/-
  PanelMinutes: what Minutes computes, in the program and in the reference.
-/
import Derived.Test.YtglbgioimibmjaaGreatDoorPmc
set_option linter.unusedSimpArgs false
set_option linter.unusedVariables false
set_option maxRecDepth 100000
namespace Go.Pv
open Go Go.Proofs
theorem mul_bd {m n M N : Int} (h1 : 0 ≤ m) (h2 : m ≤ M) (h3 : 0 ≤ n) (h4 : n ≤ N) : 0 ≤ m * n ∧ m * n ≤ M * N :=
  ⟨Int.mul_nonneg h1 h3, Int.mul_le_mul h2 h4 h3 (Int.le_trans h1 h2)⟩
theorem inR_at {l : List Int} (h : l.all inR = true) {k : Nat} (hk : k < l.length) : 0 ≤ l[k] ∧ l[k] ≤ 1000 := by
  have := List.all_eq_true.1 h l[k] (List.getElem_mem hk)
  simpa [inR] using this
theorem minL_at {p : TPanel} {a b c d : List Int} {k : Nat} (ha : k < a.length) (hb : k < b.length) (hc : k < c.length) (hd : k < d.length) :
    minL p (a.drop k) (b.drop k) (c.drop k) (d.drop k) = minAt p a[k] b[k] c[k] d[k] :: minL p (a.drop (k + 1)) (b.drop (k + 1)) (c.drop (k + 1)) (d.drop (k + 1)) := by
  rw [List.drop_eq_getElem_cons ha, List.drop_eq_getElem_cons hb, List.drop_eq_getElem_cons hc, List.drop_eq_getElem_cons hd]
  rfl
theorem okP_spec {p : TPanel} (h : okP p = true) : (0 ≤ p.2.1 ∧ p.2.1 ≤ 256) ∧ (0 ≤ p.2.2.1 ∧ p.2.2.1 ≤ 256) ∧ (0 ≤ p.2.2.2.1 ∧ p.2.2.2.1 ≤ 8388608) ∧ 0 ≤ p.2.2.2.2.1 ∧ p.2.2.2.2.1 ≤ 8388608 := by
  simp only [okP, Bool.and_eq_true, decide_eq_true_eq] at h
  exact ⟨h.1.1.1, h.1.1.2, h.1.2, h.2⟩
theorem mins_loop {p : TPanel} {x : TLine} {G : List T → Option T} {R : T → Prop} (hp : okP p = true) (hi : inL x = true) (h1 : x.2.1.length = x.1.length) (h2 : x.2.2.1.length = x.1.length) (h3 : x.2.2.2.length = x.1.length) (h8 : x.1.length ≤ 8)
    (hG : ∀ {n : Int}, 0 ≤ n → n ≤ 9007199254740992 → ∀ K : Int × Int → Prop, callK [(false, Sy.int IntKind.i64), (false, Sy.int IntKind.i64)] (G [T.v (Value.int IntKind.i64 n), T.v (Value.int IntKind.i64 1000)]) K = K ((n + 999) / 1000, 0))
    (hR : R (T.tup [T.sl false (List.map (Sy.int IntKind.i64).enc (minL p x.1 x.2.1 x.2.2.1 x.2.2.2)), T.v (Value.int IntKind.i64 0)])) :
    loopK (Int × List Int × PUnit)
      (fun (X1 : Int × List Int × PUnit → Prop) (s2 : Int × List Int × PUnit) =>
        iteP (decide (s2.fst < ((List.map (Sy.int IntKind.i64).enc x.fst).length : Int)))
          (rowsK (Sy.int IntKind.i64) (List.map (Sy.int IntKind.i64).enc x.snd.snd.fst) s2.fst fun (y3 : Int) =>
            callK [(false, Sy.int IntKind.i64), (false, Sy.int IntKind.i64)]
              (G [T.v (Value.int IntKind.i64 (IntKind.i64.wrap (p.snd.snd.snd.fst * y3))), T.v (Value.int IntKind.i64 1000)])
              fun (y4 : Int × Int) =>
              rowsK (Sy.int IntKind.i64) (List.map (Sy.int IntKind.i64).enc x.snd.snd.snd) s2.fst fun (y5 : Int) =>
                callK [(false, Sy.int IntKind.i64), (false, Sy.int IntKind.i64)]
                  (G [T.v (Value.int IntKind.i64 (IntKind.i64.wrap (p.snd.snd.snd.snd.fst * y5))), T.v (Value.int IntKind.i64 1000)])
                  fun (y6 : Int × Int) =>
                  rowsK (Sy.int IntKind.i64) (List.map (Sy.int IntKind.i64).enc x.fst) s2.fst fun (y7 : Int) =>
                    rowsK (Sy.int IntKind.i64) (List.map (Sy.int IntKind.i64).enc x.snd.fst) s2.fst fun (y8 : Int) =>
                      reqK (decide (((List.map (Sy.int IntKind.i64).enc s2.snd.fst).length + 1) * 8 ≤ 140737488355328) && decide ((List.map (Sy.int IntKind.i64).enc s2.snd.fst).length + 1 ≤ 140737488355328))
                        (decK (Sy.int IntKind.i64)
                          (List.map (Sy.int IntKind.i64).enc s2.snd.fst ++
                            [[T.v (Value.int IntKind.i64 (IntKind.i64.wrap (IntKind.i64.wrap (IntKind.i64.wrap (IntKind.i64.wrap (p.snd.fst * y7) + IntKind.i64.wrap (p.snd.snd.fst * y8)) + y4.fst) + y6.fst)))]])
                          fun (y9 : List Int) => X1 (IntKind.i64.wrap (s2.fst + 1), y9, ())))
          (R (T.tup [T.sl false (List.map (Sy.int IntKind.i64).enc s2.snd.fst), T.v (Value.int IntKind.i64 0)])))
      (0, [], ()) := by
  obtain ⟨⟨p1, p2⟩, ⟨p3, p4⟩, ⟨p5, p6⟩, p7, p8⟩ := okP_spec hp
  simp only [inL, Bool.and_eq_true] at hi
  refine loopK_ix x.1.length (fun k s => ∃ acc : List Int, s = ((k : Int), acc, ()) ∧ acc.length = k ∧ minL p x.1 x.2.1 x.2.2.1 x.2.2.2 = acc ++ minL p (x.1.drop k) (x.2.1.drop k) (x.2.2.1.drop k) (x.2.2.2.drop k)) ⟨[], rfl, rfl, by simp only [List.drop_zero, List.nil_append]⟩ ?_
  rintro X k s hk ⟨acc, rfl, hl, he⟩ hX
  dsimp only
  rw [List.length_map]
  refine ifD (fun hlt => ?_) fun hge => ?_
  · have hka : k < x.1.length := by omega
    have hkb : k < x.2.1.length := by omega
    have hkc : k < x.2.2.1.length := by omega
    have hkd : k < x.2.2.2.length := by omega
    have ra := inR_at hi.1.1.1 hka
    have rb := inR_at hi.1.1.2 hkb
    have rc := inR_at hi.1.2 hkc
    have rd := inR_at hi.2 hkd
    have ma := mul_bd p1 p2 ra.1 ra.2
    have mb := mul_bd p3 p4 rb.1 rb.2
    have mc := mul_bd p5 p6 rc.1 rc.2
    have md := mul_bd p7 p8 rd.1 rd.2
    have e : IntKind.i64.wrap ((k : Int) + 1) = ((k + 1 : Nat) : Int) := wrap_id _ (by omega) (by omega)
    rw [rowsK_at (r := .int .i64) hkc, wrap_id _ (by omega) (by omega), hG mc.1 (by omega)]
    rw [rowsK_at (r := .int .i64) hkd, wrap_id _ (by omega) (by omega), hG md.1 (by omega)]
    rw [rowsK_at (r := .int .i64) hka, rowsK_at (r := .int .i64) hkb, reqK_def]
    refine ⟨by simp only [List.length_map, Bool.and_eq_true, decide_eq_true_eq]; omega, ?_⟩
    rw [decK_snoc (r := .int .i64) rfl acc _ (minAt p x.1[k] x.2.1[k] x.2.2.1[k] x.2.2.2[k]) ?_]
    · refine hX _ hka ⟨_, by rw [e], by simp [hl], ?_⟩
      rw [he, minL_at hka hkb hkc hkd]
      simp
    · have hs : IntKind.i64.wrap (IntKind.i64.wrap (IntKind.i64.wrap (IntKind.i64.wrap (p.snd.fst * x.1[k]) + IntKind.i64.wrap (p.snd.snd.fst * x.2.1[k])) + (p.snd.snd.snd.fst * x.2.2.1[k] + 999) / 1000) + (p.snd.snd.snd.snd.fst * x.2.2.2[k] + 999) / 1000) = minAt p x.1[k] x.2.1[k] x.2.2.1[k] x.2.2.2[k] := by
        unfold minAt
        generalize p.2.1 * x.1[k] = u1 at *
        generalize p.2.2.1 * x.2.1[k] = u2 at *
        generalize p.2.2.2.1 * x.2.2.1[k] = u3 at *
        generalize p.2.2.2.2.1 * x.2.2.2[k] = u4 at *
        rw [wrap_id u1 (by omega) (by omega), wrap_id u2 (by omega) (by omega), wrap_id (u1 + u2) (by omega) (by omega), wrap_id (u1 + u2 + _) (by omega) (by omega), wrap_id _ (by omega) (by omega)]
      rw [hs]; rfl
  · have : k = x.1.length := by omega
    subst this
    have hn : minL p (x.1.drop x.1.length) (x.2.1.drop x.1.length) (x.2.2.1.drop x.1.length) (x.2.2.2.drop x.1.length) = [] := by
      rw [List.drop_length]; rfl
    rw [hn, List.append_nil] at he
    rw [← he]; exact hR
end Go.Pv
