/-
  ProcedureWider: the law's function.
-/
import Derived.Test.YtlnfhilipnldeaaPpb
import Derived.Test.YtlnfhilipnldeaaPa31
import Derived.Test.YtlnfhilipnldeaaPkj
set_option linter.unusedSimpArgs false
set_option linter.unusedVariables false
set_option maxRecDepth 100000
namespace Go.Pv
open Go Go.Proofs
theorem firstE_lack {p : TProcedure} : ∀ {l : List ByteArray}, (firstE (lackE p) l = 0 ∧ ∀ g ∈ l, hasS p.2.2.2.2.1 g = true) ∨ (firstE (lackE p) l = 23 ∧ ¬ ∀ g ∈ l, hasS p.2.2.2.2.1 g = true)
  | [] => .inl ⟨rfl, fun _ h => by cases h⟩
  | a :: l => by
    unfold firstE
    cases ha : hasS p.2.2.2.2.1 a with
    | false =>
      have e : lackE p a = 23 := by unfold lackE; rw [if_neg (by rw [ha]; decide)]
      rw [if_neg (by omega)]
      exact .inr ⟨e, fun h => by have := h a (by simp); rw [ha] at this; cases this⟩
    | true =>
      have e : lackE p a = 0 := by unfold lackE; rw [if_pos ha]
      rw [if_pos e]
      rcases firstE_lack (p := p) (l := l) with ⟨h1, h2⟩ | ⟨h1, h2⟩
      · exact .inl ⟨h1, fun g hg => by rcases List.mem_cons.1 hg with rfl | hg; exact ha; exact h2 g hg⟩
      · exact .inr ⟨h1, fun h => h2 fun g hg => h g (by simp [hg])⟩
theorem fits_wider {p q : TProcedure} {k t t' : Int} {l : List ByteArray} (hk : q.2.1 = p.2.1) (ht : p.2.2.1 ≤ t → t ≤ p.2.2.2.1 → q.2.2.1 ≤ t' ∧ t' ≤ q.2.2.2.1) (hg : ∀ g, hasS p.2.2.2.2.1 g = true → hasS q.2.2.2.2.1 g = true) :
    (fitsE p k t l = 0 → fitsE q k t' l = 0) ∧ (fitsE p k t l ≠ 8 ∧ fitsE q k t' l ≠ 8) ∧ (fitsE p k t l = 10 ↔ fitsE q k t' l = 10) := by
  unfold fitsE
  rw [hk]
  rcases firstE_lack (p := p) (l := l) with ⟨h1, h2⟩ | ⟨h1, h2⟩ <;> rcases firstE_lack (p := q) (l := l) with ⟨h3, h4⟩ | ⟨h3, h4⟩
  · rw [h1, h3]
    refine ⟨fun h => ?_, ⟨?_, ?_⟩, ?_⟩ <;> repeat' split
    all_goals first | omega | (exfalso; have := ht ‹_› ‹_›; omega) | simp_all
  · exact absurd (fun g hgl => hg g (h2 g hgl)) h4
  · rw [h1, h3]
    refine ⟨fun h => ?_, ⟨?_, ?_⟩, ?_⟩ <;> repeat' split
    all_goals first | omega | (exfalso; have := ht ‹_› ‹_›; omega) | simp_all
  · rw [h1, h3]
    refine ⟨fun h => ?_, ⟨?_, ?_⟩, ?_⟩ <;> repeat' split
    all_goals first | omega | (exfalso; have := ht ‹_› ‹_›; omega) | simp_all
theorem for_wider {p q : TProcedure} (hk : q.2.1 = p.2.1) (hf : q.2.2.1 ≤ p.2.2.1) (hu : p.2.2.2.1 ≤ q.2.2.2.1) (hg : ∀ g, hasS p.2.2.2.2.1 g = true → hasS q.2.2.2.2.1 g = true) (d : TDesign) (m : TMaterials) (id : ByteArray) :
    (forE p d m id = 0 → forE q d m id = 0) ∧ (forE p d m id = 8 ↔ forE q d m id = 8) ∧ (forE p d m id = 10 ↔ forE q d m id = 10) := by
  unfold forE
  cases seamOf d id with
  | none => simp
  | some s =>
    dsimp only
    by_cases ht : (thick d m id).2 = true
    · rw [if_pos ht, if_pos ht]
      obtain ⟨h1, h2, h3⟩ := fits_wider (p := p) (q := q) (k := s.2.2.2.1) (t := if gradesL d s = [] then p.2.2.1 else (thick d m id).1) (t' := if gradesL d s = [] then q.2.2.1 else (thick d m id).1) (l := gradesL d s) hk (by split <;> omega) hg
      exact ⟨h1, ⟨fun h => absurd h h2.1, fun h => absurd h h2.2⟩, h3⟩
    · rw [if_neg ht, if_neg ht]; simp
set_option maxRecDepth 100000
noncomputable def E_lawWider : Env := Env.of [(4, .pure g_light), (6, .pure g_pforD), (5, .pure g_awake31)]
def H_lawWider : FuncId → Hint := fun _ => noHint
theorem Eok_lawWider : EnvOk Try.prog E_lawWider := EnvOk.cons (x := .pure g_light) fn_light (EnvOk.cons (x := .pure g_pforD) fn_pforD (EnvOk.cons (x := .pure g_awake31) fn_awake31 (EnvOk.nil _)))
def F_lawWider (a0 : TProcedure) (a1 : TShipyardlaw31Place) (a2 : ByteArray) (R : T → Prop) : Prop :=
  iteP (decide (40 < (↑(List.map Sy.str.enc a0.snd.snd.snd.snd.fst).length : Int)))
  (callK [(false, Sy.bool)] (g_awake31 []) fun (y0 : Bool) => R (T.v (Value.bool y0)))
  (callK [(false, Sy.bool)]
    (g_light [encV true yDesign a1.fst, T.v (Value.int IntKind.i64 100)])
    fun (y1 : Bool) =>
    iteP (!y1)
      (callK [(false, Sy.bool)] (g_awake31 []) fun (y2 : Bool) => R (T.v (Value.bool y2)))
      (iteP (decide (100 < (↑(List.map ySection.enc a1.snd.fst.snd).length : Int)))
        (callK [(false, Sy.bool)] (g_awake31 []) fun (y3 : Bool) => R (T.v (Value.bool y3)))
        (iteP (List.map Sy.str.enc a0.snd.snd.snd.snd.fst).isEmpty
          (callK [(false, Sy.int IntKind.i64)]
            (g_pforD
              [encV true yProcedure a0, encV true yDesign a1.fst,
                encV true yMaterials a1.snd.fst, T.v (Value.string a1.snd.snd)])
            fun (y4 : Int) =>
            callK [(false, Sy.int IntKind.i64)]
              (g_pforD
                [T.agg
                    [T.v (Value.string a0.fst), T.v (Value.int IntKind.i64 a0.snd.fst),
                      T.v (Value.int IntKind.i64 (if 1 < a0.snd.snd.fst then 1 else a0.snd.snd.fst)),
                      T.v
                        (Value.int IntKind.i64 (if a0.snd.snd.snd.fst < 120 then 120 else a0.snd.snd.snd.fst)),
                      T.sl true [[T.v (Value.string a2)]],
                      T.v (Value.int IntKind.i64 a0.snd.snd.snd.snd.snd)],
                  encV true yDesign a1.fst, encV true yMaterials a1.snd.fst,
                  T.v (Value.string a1.snd.snd)])
              fun (y5 : Int) =>
              iteP (!decide (y4 = 0))
                (iteP (decide (decide (y4 = 8) = decide (y5 = 8)))
                  (iteP (decide (decide (y4 = 10) = decide (y5 = 10)))
                    (callK [(false, Sy.bool)] (g_awake31 []) fun (y6 : Bool) =>
                      R (T.v (Value.bool y6)))
                    (R (T.v (Value.bool false))))
                  (R (T.v (Value.bool false))))
                (iteP (decide (y5 = 0))
                  (iteP (decide (decide (y4 = 8) = decide (y5 = 8)))
                    (iteP (decide (decide (y4 = 10) = decide (y5 = 10)))
                      (callK [(false, Sy.bool)] (g_awake31 []) fun (y7 : Bool) =>
                        R (T.v (Value.bool y7)))
                      (R (T.v (Value.bool false))))
                    (R (T.v (Value.bool false))))
                  (R (T.v (Value.bool false)))))
          (reqK
            (allW 1 (List.map Sy.str.enc a0.snd.snd.snd.snd.fst) &&
                decide ((1 + (List.map Sy.str.enc a0.snd.snd.snd.snd.fst).length) * 16 ≤ 140737488355328) &&
              decide (1 + (List.map Sy.str.enc a0.snd.snd.snd.snd.fst).length ≤ 140737488355328))
            (callK [(false, Sy.int IntKind.i64)]
              (g_pforD
                [encV true yProcedure a0, encV true yDesign a1.fst,
                  encV true yMaterials a1.snd.fst, T.v (Value.string a1.snd.snd)])
              fun (y8 : Int) =>
              callK [(false, Sy.int IntKind.i64)]
                (g_pforD
                  [T.agg
                      [T.v (Value.string a0.fst), T.v (Value.int IntKind.i64 a0.snd.fst),
                        T.v (Value.int IntKind.i64 (if 1 < a0.snd.snd.fst then 1 else a0.snd.snd.fst)),
                        T.v
                          (Value.int IntKind.i64 (if a0.snd.snd.snd.fst < 120 then 120 else a0.snd.snd.snd.fst)),
                        T.sl false
                          ([T.v (Value.string a2)] ::
                            (List.map Sy.str.enc a0.snd.snd.snd.snd.fst)),
                        T.v (Value.int IntKind.i64 a0.snd.snd.snd.snd.snd)],
                    encV true yDesign a1.fst, encV true yMaterials a1.snd.fst,
                    T.v (Value.string a1.snd.snd)])
                fun (y9 : Int) =>
                iteP (!decide (y8 = 0))
                  (iteP (decide (decide (y8 = 8) = decide (y9 = 8)))
                    (iteP (decide (decide (y8 = 10) = decide (y9 = 10)))
                      (callK [(false, Sy.bool)] (g_awake31 []) fun (y10 : Bool) =>
                        R (T.v (Value.bool y10)))
                      (R (T.v (Value.bool false))))
                    (R (T.v (Value.bool false))))
                  (iteP (decide (y9 = 0))
                    (iteP (decide (decide (y8 = 8) = decide (y9 = 8)))
                      (iteP (decide (decide (y8 = 10) = decide (y9 = 10)))
                        (callK [(false, Sy.bool)] (g_awake31 []) fun (y11 : Bool) =>
                          R (T.v (Value.bool y11)))
                        (R (T.v (Value.bool false))))
                      (R (T.v (Value.bool false))))
                    (R (T.v (Value.bool false)))))))))
theorem F_lawWider_eq (a0 : TProcedure) (a1 : TShipyardlaw31Place) (a2 : ByteArray) (R : T → Prop) : sxTop stdC2 Try.prog E_lawWider H_lawWider 8 3 [encV true yProcedure a0, encV true yShipyardlaw31Place a1, encV false Sy.str a2] R = F_lawWider a0 a1 a2 R := by kernel_rfl
abbrev s_lawWider : Sh := [(true, yProcedure), (true, yShipyardlaw31Place), (false, Sy.str)]
abbrev r_lawWider : Sh := [(false, Sy.bool)]
theorem r_lawWider_call (y : Sh.den r_lawWider) (K : Sh.den r_lawWider → Prop) : callK r_lawWider (some (Sh.enc r_lawWider y)) K = K y := callK_enc rfl y K

def sp_lawWider (x : TProcedure × TShipyardlaw31Place × ByteArray) : Option T := onlyD x.2.1.1 (T.v (Value.bool true))
noncomputable def g_lawWider : List T → Option (T) := gS s_lawWider sp_lawWider
theorem g_lawWider_at {a0 : TProcedure} {a1 : TShipyardlaw31Place} {a2 : ByteArray} : g_lawWider [encV true yProcedure a0, encV true yShipyardlaw31Place a1, T.v (Value.string a2)] = sp_lawWider (a0, a1, a2) := gS_enc (s := s_lawWider) rfl (a0, a1, a2) rfl
theorem g_lawWider_op {u0 u1 u2 u3 u4 u5 u6 u7 u8 u9 u10 u11 u12 u13 u14 u15} : g_lawWider [T.agg
    [T.v (Value.string u0), T.v (Value.int IntKind.i64 u1),
      T.v (Value.int IntKind.i64 u2),
      T.v (Value.int IntKind.i64 u3),
      T.sl false (List.map Sy.str.enc u4),
      T.v (Value.int IntKind.i64 u5)],
  T.agg
    [T.v (Value.string u6), T.sl false (List.map yNode.enc u7),
      T.sl false (List.map yPart.enc u8),
      T.sl false (List.map ySeam.enc u9),
      T.sl false (List.map yPackage.enc u10),
      T.sl false (List.map yNeed.enc u11),
      T.sl false (List.map yGrade.enc u12),
      T.sl false (List.map ySection.enc u13), T.v (Value.string u14)],
  T.v (Value.string u15)] = sp_lawWider ((u0, (u1, (u2, (u3, (u4, u5))))), ((u6, (u7, (u8, (u9, (u10, u11))))), ((u12, u13), u14)), u15) := gS_enc (s := s_lawWider) rfl ((u0, (u1, (u2, (u3, (u4, u5))))), ((u6, (u7, (u8, (u9, (u10, u11))))), ((u12, u13), u14)), u15) rfl
theorem of_lawWider (h : ∀ (a0 : TProcedure) (a1 : TShipyardlaw31Place) (a2 : ByteArray) (r : T), sp_lawWider (a0, a1, a2) = some r → BdSh s_lawWider (a0, a1, a2) → F_lawWider a0 a1 a2 (fun y => y = r)) : PureFn Try.prog 3 g_lawWider :=
  pureFn_S (E := E_lawWider) (Hs := H_lawWider) Eok_lawWider mixed' plain' (noHeap_of rfl) 8 ⟨_, _, Try.func3, rfl⟩ rfl fun x r h1 h2 => by
    obtain ⟨a0, a1, a2⟩ := x
    rw [show Sh.encs s_lawWider (a0, a1, a2) = [encV true yProcedure a0, encV true yShipyardlaw31Place a1, encV false Sy.str a2] from rfl, F_lawWider_eq]
    exact h a0 a1 a2 r h1 h2

theorem awake31_call {K : Bool → Prop} (h : K true) : callK [(false, Sy.bool)] (g_awake31 []) K := callK_some (s := [(false, .bool)]) (y := true) rfl h
def wider (p : TProcedure) (g : ByteArray) : TProcedure := (p.1, p.2.1, if 1 < p.2.2.1 then 1 else p.2.2.1, if p.2.2.2.1 < 120 then 120 else p.2.2.2.1, g :: p.2.2.2.2.1, p.2.2.2.2.2)
theorem fn_lawWider : PureFn Try.prog 3 g_lawWider := of_lawWider fun p x g r h hb => by
  obtain ⟨hok, rfl⟩ := onlyD_of h
  replace hok : okD x.1 = true := hok
  clear h
  unfold F_lawWider
  refine ifP (fun _ => awake31_call rfl) fun hl => ?_
  rw [List.length_map] at hl
  refine callK_some (s := [(false, .bool)]) (y := light x.1 100) (g_light_at ..) ?_
  refine ifNB (fun _ => awake31_call rfl) fun _ => ?_
  refine ifP (fun _ => awake31_call rfl) fun _ => ?_
  have hp : g_pforD [encV true yProcedure p, encV true yDesign x.1, encV true yMaterials x.2.1, T.v (Value.string x.2.2)] = some (Sh.enc [(false, .int .i64)] (forE p x.1 x.2.1 x.2.2)) := pforD_call hok (deep_encV 3 (r := yProcedure) p rfl rfl)
  obtain ⟨w1, w2, w3⟩ := for_wider (p := p) (q := wider p g) rfl (by show (if _ then _ else _) ≤ _; split <;> omega) (by show _ ≤ (if _ then _ else _); split <;> omega) (fun y hy => by
    show hasS (g :: p.2.2.2.2.1) y = true
    unfold hasS at hy ⊢
    rw [List.any_cons, hy, Bool.or_true]) x.1 x.2.1 x.2.2
  have fin : ∀ {P : T}, T.deep 4 P = encV true yProcedure (wider p g) → callK [(false, Sy.int IntKind.i64)] (g_pforD [P, encV true yDesign x.1, encV true yMaterials x.2.1, T.v (Value.string x.2.2)]) fun (y5 : Int) =>
      iteP (!decide (forE p x.1 x.2.1 x.2.2 = 0))
        (iteP (decide (decide (forE p x.1 x.2.1 x.2.2 = 8) = decide (y5 = 8))) (iteP (decide (decide (forE p x.1 x.2.1 x.2.2 = 10) = decide (y5 = 10))) (callK [(false, Sy.bool)] (g_awake31 []) fun (y6 : Bool) => T.v (Value.bool y6) = T.v (Value.bool true)) (T.v (Value.bool false) = T.v (Value.bool true))) (T.v (Value.bool false) = T.v (Value.bool true)))
        (iteP (decide (y5 = 0)) (iteP (decide (decide (forE p x.1 x.2.1 x.2.2 = 8) = decide (y5 = 8))) (iteP (decide (decide (forE p x.1 x.2.1 x.2.2 = 10) = decide (y5 = 10))) (callK [(false, Sy.bool)] (g_awake31 []) fun (y7 : Bool) => T.v (Value.bool y7) = T.v (Value.bool true)) (T.v (Value.bool false) = T.v (Value.bool true))) (T.v (Value.bool false) = T.v (Value.bool true))) (T.v (Value.bool false) = T.v (Value.bool true))) := by
    intro P hP
    refine callK_some (s := [(false, .int .i64)]) (y := forE (wider p g) x.1 x.2.1 x.2.2) (pforD_call hok hP) ?_
    have e2 : decide (forE p x.1 x.2.1 x.2.2 = 8) = decide (forE (wider p g) x.1 x.2.1 x.2.2 = 8) := decide_eq_decide.2 w2
    have e3 : decide (forE p x.1 x.2.1 x.2.2 = 10) = decide (forE (wider p g) x.1 x.2.1 x.2.2 = 10) := decide_eq_decide.2 w3
    have tail : iteP (decide (decide (forE p x.1 x.2.1 x.2.2 = 8) = decide (forE (wider p g) x.1 x.2.1 x.2.2 = 8))) (iteP (decide (decide (forE p x.1 x.2.1 x.2.2 = 10) = decide (forE (wider p g) x.1 x.2.1 x.2.2 = 10))) (callK [(false, Sy.bool)] (g_awake31 []) fun (y6 : Bool) => T.v (Value.bool y6) = T.v (Value.bool true)) (T.v (Value.bool false) = T.v (Value.bool true))) (T.v (Value.bool false) = T.v (Value.bool true)) :=
      iteP_yes e2 (iteP_yes e3 (awake31_call rfl))
    refine ifQ (fun _ => tail) fun h0 => iteP_yes (w1 h0) tail
  refine ifB (fun he => ?_) fun he => ?_
  · refine callK_some (s := [(false, .int .i64)]) hp (fin ?_)
    have hn : p.2.2.2.2.1 = [] := by simpa using he
    show T.agg (List.map (T.deep 3) _) = T.agg (yProcedure.enc (wider p g))
    unfold wider
    rw [hn]
    rfl
  · refine ⟨?_, callK_some (s := [(false, .int .i64)]) hp (fin ?_)⟩
    · rw [show allW 1 (List.map Sy.str.enc p.2.2.2.2.1) = true from allW_enc .str _]
      simp only [Bool.true_and, Bool.and_eq_true, decide_eq_true_eq, List.length_map]
      omega
    · show T.agg [_, _, _, _, T.sl false ([T.v (Value.string g)] :: (List.map Sy.str.enc p.2.2.2.2.1).map (fun r => r.map (T.deep 2))), _] = T.agg (yProcedure.enc (wider p g))
      rw [deep_strs]
      rfl
theorem okD_inW {d : TDesign} (h : InS yDesign d) : okD d = true := by
  refine List.all_eq_true.2 fun p hp => ?_
  obtain ⟨_, _, ⟨_, _, h3⟩, _⟩ := h
  have h4 := h3 p hp
  obtain ⟨_, _, _, _, _, _, ⟨⟨h5, h6, _⟩, h7, h8, h9⟩, _⟩ := h4
  unfold okPart okShape okLen
  simp only [Bool.and_eq_true, decide_eq_true_eq, List.all_eq_true]
  refine ⟨⟨⟨?_, ?_⟩, ?_, ?_⟩, fun q hq => ?_⟩
  · exact h5
  · exact h6
  · exact h7
  · exact h8
  · obtain ⟨g1, g2, _⟩ := h9 q hq
    exact ⟨g1, g2⟩
theorem okD_wider : ∀ x : TProcedure × TShipyardlaw31Place × ByteArray, InSh s_lawWider x → sp_lawWider x = some (.v (.bool true)) := fun x h => onlyD_ok _ (okD_inW h.2.1.1)
end Go.Pv
