/-
  The lists of seams.
-/
import Derived.Test.YtlpcelingpgmfaaDoorPsi
import Derived.Test.YtlpcelingpgmfaaDoorPst
import Derived.Test.YtlpcelingpgmfaaDoorPkm
set_option linter.unusedSimpArgs false
set_option linter.unusedVariables false
set_option maxRecDepth 100000
namespace Go.Pv
open Go Go.Proofs
def onlyL (d : TDesign) (t : T) : Option T := match okD d && light d 100 with
  | true => some t
  | false => none
theorem onlyL_of {d : TDesign} {t r : T} (h : onlyL d t = some r) : okD d = true ∧ light d 100 = true ∧ d.2.2.2.1.length ≤ 100 ∧ r = t := by
  unfold onlyL at h; split at h
  · rename_i hc
    rw [Bool.and_eq_true] at hc
    cases h
    refine ⟨hc.1, hc.2, ?_, rfl⟩
    have := hc.2
    simp only [light, Bool.and_eq_true, decide_eq_true_eq] at this
    omega
  · cases h
theorem onlyL_ok {d : TDesign} (t : T) (h : okD d = true) (h2 : light d 100 = true) : onlyL d t = some t := by unfold onlyL; rw [h, h2]; rfl
/-- The identifiers of the seams that a condition picks. -/
def picks (d : TDesign) (c : TSeam → Bool) : List ByteArray := (d.2.2.2.1.filter c).map fun s => s.1
def touchC (id : ByteArray) (s : TSeam) : Bool := decide (s.2.1 = id) || decide (s.2.2.1 = id)
def sp_touches (x : TDesign × ByteArray) : Option T := onlyL x.1 (Sh.enc r_ls (picks x.1 (touchC x.2)))
/-- What the map holds after k seams. -/
def Held (l : List TSeam) (c : TSeam → Bool) (k : Nat) (es : List (Int × ByteArray)) : Prop := es.map (fun e => e.2) = ((l.take k).filter c).map (fun s => s.1) ∧ es.Pairwise (fun a b => a.1 < b.1) ∧ (∀ e ∈ es, e.1 < (k : Int)) ∧ es.length ≤ k
theorem Held.zero (l : List TSeam) (c : TSeam → Bool) : Held l c 0 [] := ⟨by simp, by simp, by simp, by simp⟩
theorem Held.no {l : List TSeam} {c : TSeam → Bool} {k : Nat} {es : List (Int × ByteArray)} (h : Held l c k es) (hk : k < l.length) (hc : c l[k] = false) : Held l c (k + 1) es :=
  ⟨by rw [h.1, List.take_succ_eq_append_getElem hk, List.filter_append]; simp [hc], h.2.1, fun e he => by have := h.2.2.1 e he; omega, by have := h.2.2.2; omega⟩
theorem Held.yes {l : List TSeam} {c : TSeam → Bool} {k : Nat} {es : List (Int × ByteArray)} (h : Held l c k es) (hk : k < l.length) (hc : c l[k] = true) : Held l c (k + 1) (es ++ [((k : Int), l[k].1)]) :=
  ⟨by rw [List.map_append, h.1, List.take_succ_eq_append_getElem hk, List.filter_append]; simp [hc], List.pairwise_append.2 ⟨h.2.1, by simp, fun a ha b hb => by simp at hb; subst hb; exact h.2.2.1 a ha⟩, fun e he => by
    rcases List.mem_append.1 he with he | he
    · have := h.2.2.1 e he; omega
    · simp at he; subst he; simp; omega, by have := h.2.2.2; simp; omega⟩
theorem Held.new {l : List TSeam} {c : TSeam → Bool} {k : Nat} {es : List (Int × ByteArray)} (h : Held l c k es) : ∀ e ∈ es, e.1 ≠ (k : Int) := fun e he => by have := h.2.2.1 e he; omega
/-- One seam goes into the map. -/
theorem held_ins {l : List TSeam} {c : TSeam → Bool} {k : Nat} {es : List (Int × ByteArray)} (h : Held l c k es) (hk : k < l.length) (hc : c l[k] = true) (K : List (Int × ByteArray) → Prop) (hK : K (es ++ [((k : Int), l[k].1)])) :
    optK (Option (Nat × D)) (findD (TypeDesc.int IntKind.i64) (Value.int IntKind.i64 (k : Int)) (List.map (encE (Sy.int IntKind.i64) false Sy.str) es) 0)
              fun (y4 : Option (Nat × D)) =>
              decMK (Sy.int IntKind.i64) false Sy.str
                (setEnt (List.map (encE (Sy.int IntKind.i64) false Sy.str) es) y4
                  (Value.int IntKind.i64 (k : Int)) (D.p (T.v (Value.string l[k].1)))) K := by
  rw [show findD (TypeDesc.int IntKind.i64) (Value.int IntKind.i64 (k : Int)) (List.map (encE (Sy.int IntKind.i64) false Sy.str) es) 0 = some none from findI_none (r := .str) h.new, optK_some]
  rw [show setEnt (List.map (encE (Sy.int IntKind.i64) false Sy.str) es) none (Value.int IntKind.i64 (k : Int)) (D.p (T.v (Value.string l[k].1))) = List.map (eI .str) (es ++ [((k : Int), l[k].1)]) from setEnt_none (r := .str) es k l[k].1]
  exact decMK_eI (r := .str) rfl _ _ hK
theorem chosen_tail {es : List (Int × ByteArray)} (hl : es.length ≤ 100) (hp : es.Pairwise (fun a b => a.1 < b.1)) {R : T → Prop} (hR : R (T.sl false (List.map Sy.str.enc (es.map fun e => e.2)))) :
    loopK (List Int × (Nat × List Nat × Nat) × PUnit)
          (fun (X9 : List Int × (Nat × List Nat × Nat) × PUnit → Prop)
              (s10 : List Int × (Nat × List Nat × Nat) × PUnit) =>
            reqK
              (decide
                  ((List.map (encE (Sy.int IntKind.i64) false Sy.str) es).length ≤
                    s10.snd.fst.fst) &&
                decide (s10.snd.fst.fst ≤ s10.snd.fst.snd.snd))
              (eachK (List.map (encE (Sy.int IntKind.i64) false Sy.str) es).length
                s10.snd.fst.snd.fst
                (optK (List (List T))
                  (match decI (List.map (Sy.int IntKind.i64).enc s10.fst) with
                  | some x =>
                    some (List.map (fun (a : Int) => [T.v (Value.int IntKind.i64 a)]) (sortL x))
                  | none => none)
                  fun (y11 : List (List T)) =>
                  loopK (List ByteArray × Int × PUnit)
                    (fun (X12 : List ByteArray × Int × PUnit → Prop) (s13 : List ByteArray × Int × PUnit) =>
                      iteP (decide (s13.snd.fst < (↑y11.length : Int)))
                        (rowsK (Sy.int IntKind.i64) y11 s13.snd.fst fun (y14 : Int) =>
                          partK (Sy.int IntKind.i64) y11 (Int.toNat s13.snd.fst) 0 fun (y15 : Int) =>
                            findK (TypeDesc.int IntKind.i64) (Value.int IntKind.i64 y15)
                              (List.map (encE (Sy.int IntKind.i64) false Sy.str) es) false
                              Sy.str
                              (reqK
                                (decide (((List.map Sy.str.enc s13.fst).length + 1) * 16 ≤ 140737488355328) &&
                                  decide ((List.map Sy.str.enc s13.fst).length + 1 ≤ 140737488355328))
                                (decK Sy.str
                                  (List.map Sy.str.enc s13.fst ++ [[T.v (Value.string { data := #[] })]])
                                  fun (y19 : List ByteArray) => X12 (y19, IntKind.i64.wrap (s13.snd.fst + 1), ())))
                              fun (i16 : Nat) (y17 : ByteArray) =>
                              reqK
                                (decide (((List.map Sy.str.enc s13.fst).length + 1) * 16 ≤ 140737488355328) &&
                                  decide ((List.map Sy.str.enc s13.fst).length + 1 ≤ 140737488355328))
                                (decK Sy.str
                                  (List.map Sy.str.enc s13.fst ++ [[T.v (Value.string y17)]])
                                  fun (y18 : List ByteArray) => X12 (y18, IntKind.i64.wrap (s13.snd.fst + 1), ())))
                        (R (T.sl false (List.map Sy.str.enc s13.fst))))
                    ([], 0, ()))
                fun (i20 : Nat) =>
                reqK
                  (decide
                    ((List.map (encE (Sy.int IntKind.i64) false Sy.str) es).length =
                      (List.map (encE (Sy.int IntKind.i64) false Sy.str) es).length))
                  (entK (Sy.int IntKind.i64) false Sy.str
                    (List.map (encE (Sy.int IntKind.i64) false Sy.str) es)
                    (s10.snd.fst.snd.fst ++ [i20]) fun (k21 : Int) (y22 : ByteArray) =>
                    reqK
                      (decide
                          (((List.map (Sy.int IntKind.i64).enc s10.fst).length + 1) * 8 ≤ 140737488355328) &&
                        decide ((List.map (Sy.int IntKind.i64).enc s10.fst).length + 1 ≤ 140737488355328))
                      (decK (Sy.int IntKind.i64)
                        (List.map (Sy.int IntKind.i64).enc s10.fst ++
                          [[T.v (Value.int IntKind.i64 k21)]])
                        fun (y23 : List Int) =>
                        X9
                          (y23,
                            (s10.snd.fst.fst, s10.snd.fst.snd.fst ++ [i20],
                              (List.map (encE (Sy.int IntKind.i64) false Sy.str)
                                  es).length),
                            ())))))
          ([],
            ((List.map (encE (Sy.int IntKind.i64) false Sy.str) es).length, [],
              (List.map (encE (Sy.int IntKind.i64) false Sy.str) es).length),
            ()) := by
  generalize hn : (List.map (encE (Sy.int IntKind.i64) false Sy.str) es).length = n
  have hn' : es.length = n := by simpa using hn
  let key : Nat → Int := fun i => (es.map fun e => e.1).getD i 0
  have hkey : ∀ i (hi : i < es.length), key i = es[i].1 := fun i hi => by simp [key, List.getD_eq_getElem?_getD, hi]
  refine loopK_inv (fun s => ∃ seen : List Nat, s = (seen.map key, (n, seen, n), ()) ∧ seen.Nodup ∧ (∀ i ∈ seen, i < n) ∧ seen.length + (mitLeft n seen).length ≤ n) (fun s => (mitLeft n s.2.1.2.1).length) ⟨[], rfl, by simp, by simp, by rw [mitLeft_nil]; simp⟩ ?_
  rintro X s ⟨seen, rfl, hnd, hlt, hln⟩ hX
  dsimp only
  refine ⟨by simp, fun hnil => ?_, fun i hi => ⟨by simp, ?_⟩⟩
  · rw [decI_enc]
    have hkeys : sortL (seen.map key) = es.map fun e => e.1 := by
      refine sort_back (by rw [List.pairwise_map]; exact hp) ?_
      have h1 := (perm_range hnd hlt hnil).map key
      refine h1.trans (List.Perm.of_eq ?_)
      apply List.ext_getElem
      · simp [hn']
      · intro i h1 h2
        simp at h1 h2
        simp [hkey i (by omega)]
    simp only [optK_some, hkeys]
    rw [show (List.map (fun (a : Int) => [T.v (Value.int IntKind.i64 a)]) (es.map fun e => e.1)) = List.map (Sy.int .i64).enc (es.map fun e => e.1) from rfl]
    refine loopK_ix es.length (fun k s => s = ((es.map fun e => e.2).take k, (k : Int), ())) (by simp) ?_
    rintro X k s hk rfl hX
    dsimp only
    by_cases hlt : k < es.length
    · have hkl : k < (es.map fun e => e.1).length := by simpa using hlt
      refine iteP_yes (by simp [hlt]) ?_
      rw [rowsK_at (r := .int .i64) hkl, Int.toNat_natCast, partK_at (r := .int .i64) hkl]
      simp only [List.getElem_map]
      refine findK_at (r := .str) hlt hp ?_
      rw [app_ok (by simp; omega), dec_snoc]
      refine hX _ hlt ?_
      have : (es.map fun e => e.2).take (k + 1) = (es.map fun e => e.2).take k ++ [es[k].2] := by
        rw [List.take_succ_eq_append_getElem (by simpa using hlt)]; simp
      rw [this]
      simp only [Prod.mk.injEq, and_true, true_and]
      exact wrap_id _ (by omega) (by omega)
    · have : k = es.length := by omega
      subst this
      refine iteP_no (by simp) ?_
      rw [List.take_of_length_le (by simp)]
      exact hR
  · have hi' := mitLeft_mem.1 hi
    have hie : i < es.length := by omega
    have hst := mitLeft_step hi
    refine entK_eI (r := .str) hie _ ⟨?_, ?_⟩
    · simp; omega
    · rw [show (List.map (Sy.int IntKind.i64).enc (List.map key seen) ++ [[T.v (Value.int IntKind.i64 es[i].1)]]) = List.map (Sy.int IntKind.i64).enc (List.map key (seen ++ [i])) by simp [hkey i hie, Sy.enc], decK_map (r := .int .i64) rfl]
      refine hX _ ⟨seen ++ [i], rfl, ?_, ?_, ?_⟩ hst
      · rw [List.nodup_append]
        exact ⟨hnd, by simp, fun a ha b hb => by simp at hb; subst hb; exact fun e => hi'.2 (e ▸ ha)⟩
      · intro j hj
        rcases List.mem_append.1 hj with h | h
        · exact hlt j h
        · simp at h; omega
      · simp; omega
set_option maxRecDepth 100000
noncomputable def E_touches : Env := Env.of [(45, .perm 1 g_sortI)]
def H_touches : FuncId → Hint := fun f => match f == 30 with | true => ⟨fun r => match r == 3 with | true => .inv [.val 17 false (.int .i64), .map 3 (.int .i64) false .str] | false => match r == 10 with | true => .inv [.own 8 1 (.int .i64), .mit 4 (some 3)] | false => match r == 16 with | true => .inv [.own 10 1 .str, .val 44 false (.int .i64)] | false => .none, fun _ _ => none, fun r => match r == 11 with | true => some ((.int .i64), false, .str) | false => none⟩ | false => noHint
theorem Eok_touches : EnvOk Tryd.prog E_touches := EnvOk.cons (x := .perm 1 g_sortI) fn_sortI (EnvOk.nil _)
def F_touches (a0 : TDesign) (a1 : ByteArray) (R : T → Prop) : Prop :=
  decMK (Sy.int IntKind.i64) false Sy.str [] fun (y0 : List (Int × ByteArray)) =>
  loopK (Int × List (Int × ByteArray) × PUnit)
    (fun (X1 : Int × List (Int × ByteArray) × PUnit → Prop) (s2 : Int × List (Int × ByteArray) × PUnit) =>
      iteP (decide (s2.fst < (↑(List.map ySeam.enc a0.snd.snd.snd.fst).length : Int)))
        (rowsK ySeam (List.map ySeam.enc a0.snd.snd.snd.fst) s2.fst fun (y3 : TSeam) =>
          iteP (decide (y3.snd.fst = a1))
            (optK (Option (Nat × D))
              (findD (TypeDesc.int IntKind.i64) (Value.int IntKind.i64 s2.fst)
                (List.map (encE (Sy.int IntKind.i64) false Sy.str) s2.snd.fst) 0)
              fun (y4 : Option (Nat × D)) =>
              decMK (Sy.int IntKind.i64) false Sy.str
                (setEnt (List.map (encE (Sy.int IntKind.i64) false Sy.str) s2.snd.fst) y4
                  (Value.int IntKind.i64 s2.fst) (D.p (T.v (Value.string y3.fst))))
                fun (y5 : List (Int × ByteArray)) => X1 (IntKind.i64.wrap (s2.fst + 1), y5, ()))
            (iteP (decide (y3.snd.snd.fst = a1))
              (optK (Option (Nat × D))
                (findD (TypeDesc.int IntKind.i64) (Value.int IntKind.i64 s2.fst)
                  (List.map (encE (Sy.int IntKind.i64) false Sy.str) s2.snd.fst) 0)
                fun (y6 : Option (Nat × D)) =>
                decMK (Sy.int IntKind.i64) false Sy.str
                  (setEnt (List.map (encE (Sy.int IntKind.i64) false Sy.str) s2.snd.fst) y6
                    (Value.int IntKind.i64 s2.fst) (D.p (T.v (Value.string y3.fst))))
                  fun (y7 : List (Int × ByteArray)) => X1 (IntKind.i64.wrap (s2.fst + 1), y7, ()))
              (decMK (Sy.int IntKind.i64) false Sy.str
                (List.map (encE (Sy.int IntKind.i64) false Sy.str) s2.snd.fst)
                fun (y8 : List (Int × ByteArray)) => X1 (IntKind.i64.wrap (s2.fst + 1), y8, ()))))
        (loopK (List Int × (Nat × List Nat × Nat) × PUnit)
          (fun (X9 : List Int × (Nat × List Nat × Nat) × PUnit → Prop)
              (s10 : List Int × (Nat × List Nat × Nat) × PUnit) =>
            reqK
              (decide
                  ((List.map (encE (Sy.int IntKind.i64) false Sy.str) s2.snd.fst).length ≤
                    s10.snd.fst.fst) &&
                decide (s10.snd.fst.fst ≤ s10.snd.fst.snd.snd))
              (eachK (List.map (encE (Sy.int IntKind.i64) false Sy.str) s2.snd.fst).length
                s10.snd.fst.snd.fst
                (optK (List (List T))
                  (match decI (List.map (Sy.int IntKind.i64).enc s10.fst) with
                  | some x =>
                    some (List.map (fun (a : Int) => [T.v (Value.int IntKind.i64 a)]) (sortL x))
                  | none => none)
                  fun (y11 : List (List T)) =>
                  loopK (List ByteArray × Int × PUnit)
                    (fun (X12 : List ByteArray × Int × PUnit → Prop) (s13 : List ByteArray × Int × PUnit) =>
                      iteP (decide (s13.snd.fst < (↑y11.length : Int)))
                        (rowsK (Sy.int IntKind.i64) y11 s13.snd.fst fun (y14 : Int) =>
                          partK (Sy.int IntKind.i64) y11 (Int.toNat s13.snd.fst) 0 fun (y15 : Int) =>
                            findK (TypeDesc.int IntKind.i64) (Value.int IntKind.i64 y15)
                              (List.map (encE (Sy.int IntKind.i64) false Sy.str) s2.snd.fst) false
                              Sy.str
                              (reqK
                                (decide (((List.map Sy.str.enc s13.fst).length + 1) * 16 ≤ 140737488355328) &&
                                  decide ((List.map Sy.str.enc s13.fst).length + 1 ≤ 140737488355328))
                                (decK Sy.str
                                  (List.map Sy.str.enc s13.fst ++ [[T.v (Value.string { data := #[] })]])
                                  fun (y19 : List ByteArray) => X12 (y19, IntKind.i64.wrap (s13.snd.fst + 1), ())))
                              fun (i16 : Nat) (y17 : ByteArray) =>
                              reqK
                                (decide (((List.map Sy.str.enc s13.fst).length + 1) * 16 ≤ 140737488355328) &&
                                  decide ((List.map Sy.str.enc s13.fst).length + 1 ≤ 140737488355328))
                                (decK Sy.str
                                  (List.map Sy.str.enc s13.fst ++ [[T.v (Value.string y17)]])
                                  fun (y18 : List ByteArray) => X12 (y18, IntKind.i64.wrap (s13.snd.fst + 1), ())))
                        (R (T.sl false (List.map Sy.str.enc s13.fst))))
                    ([], 0, ()))
                fun (i20 : Nat) =>
                reqK
                  (decide
                    ((List.map (encE (Sy.int IntKind.i64) false Sy.str) s2.snd.fst).length =
                      (List.map (encE (Sy.int IntKind.i64) false Sy.str) s2.snd.fst).length))
                  (entK (Sy.int IntKind.i64) false Sy.str
                    (List.map (encE (Sy.int IntKind.i64) false Sy.str) s2.snd.fst)
                    (s10.snd.fst.snd.fst ++ [i20]) fun (k21 : Int) (y22 : ByteArray) =>
                    reqK
                      (decide
                          (((List.map (Sy.int IntKind.i64).enc s10.fst).length + 1) * 8 ≤ 140737488355328) &&
                        decide ((List.map (Sy.int IntKind.i64).enc s10.fst).length + 1 ≤ 140737488355328))
                      (decK (Sy.int IntKind.i64)
                        (List.map (Sy.int IntKind.i64).enc s10.fst ++
                          [[T.v (Value.int IntKind.i64 k21)]])
                        fun (y23 : List Int) =>
                        X9
                          (y23,
                            (s10.snd.fst.fst, s10.snd.fst.snd.fst ++ [i20],
                              (List.map (encE (Sy.int IntKind.i64) false Sy.str)
                                  s2.snd.fst).length),
                            ())))))
          ([],
            ((List.map (encE (Sy.int IntKind.i64) false Sy.str) s2.snd.fst).length, [],
              (List.map (encE (Sy.int IntKind.i64) false Sy.str) s2.snd.fst).length),
            ())))
    (0, y0, ())
theorem F_touches_eq (a0 : TDesign) (a1 : ByteArray) (R : T → Prop) : sxTop stdC2 Tryd.prog E_touches H_touches 8 18 [encV true yDesign a0, encV false Sy.str a1] R = F_touches a0 a1 R := by kernel_rfl
abbrev s_touches : Sh := [(true, yDesign), (false, Sy.str)]
abbrev r_touches : Sh := [(false, Sy.str.li)]
theorem r_touches_call (y : Sh.den r_touches) (K : Sh.den r_touches → Prop) : callK r_touches (some (Sh.enc r_touches y)) K = K y := callK_enc rfl y K

noncomputable def g_touches : List T → Option (T) := gS s_touches sp_touches
theorem g_touches_at {a0} {a1} : g_touches [encV true yDesign a0, T.v (Value.string a1)] = sp_touches (a0, a1) := gS_enc (s := s_touches) rfl (a0, a1) rfl
theorem g_touches_op {u0 u1 u2 u3 u4 u5 u6} : g_touches [T.agg
    [T.v (Value.string u0), T.sl false (List.map yNode.enc u1),
      T.sl false (List.map yPart.enc u2),
      T.sl false (List.map ySeam.enc u3),
      T.sl false (List.map yPackage.enc u4),
      T.sl false (List.map yNeed.enc u5)],
  T.v (Value.string u6)] = sp_touches ((u0, (u1, (u2, (u3, (u4, u5))))), u6) := gS_enc (s := s_touches) rfl ((u0, (u1, (u2, (u3, (u4, u5))))), u6) rfl
theorem of_touches (h : ∀ (a0 : TDesign) (a1 : ByteArray) (r : T), sp_touches (a0, a1) = some r → BdSh s_touches (a0, a1) → F_touches a0 a1 (fun y => y = r)) : PureFn Tryd.prog 18 g_touches :=
  pureFn_S (E := E_touches) (Hs := H_touches) Eok_touches mixed' plain' (noHeap_of rfl) 8 ⟨_, _, Tryd.func18, rfl⟩ rfl fun x r h1 h2 => by
    obtain ⟨a0, a1⟩ := x
    rw [show Sh.encs s_touches (a0, a1) = [encV true yDesign a0, encV false Sy.str a1] from rfl, F_touches_eq]
    exact h a0 a1 r h1 h2

theorem fn_touches : PureFn Tryd.prog 18 g_touches := of_touches fun d id r h hb => by
  have h' : onlyL d (Sh.enc r_ls (picks d (touchC id))) = some r := h
  obtain ⟨hok, _, hl, rfl⟩ := onlyL_of h'
  clear h h'
  unfold F_touches
  refine ⟨[], rfl, ?_⟩
  refine loopK_ix d.2.2.2.1.length (fun k s => ∃ es, s = ((k : Int), es, ()) ∧ Held d.2.2.2.1 (touchC id) k es) ⟨[], rfl, Held.zero _ _⟩ ?_
  rintro X k s hk ⟨es, rfl, he⟩ hX
  dsimp only
  by_cases hlt : k < d.2.2.2.1.length
  · refine iteP_yes (by simp [hlt]) ?_
    rw [rowsK_at (r := ySeam) hlt]
    have yes : touchC id d.2.2.2.1[k] = true → X (IntKind.i64.wrap ((k : Int) + 1), es ++ [((k : Int), d.2.2.2.1[k].1)], ()) := fun hc => hX _ hlt ⟨_, by rw [show IntKind.i64.wrap ((k : Int) + 1) = ((k + 1 : Nat) : Int) from wrap_id _ (by omega) (by omega)], he.yes hlt hc⟩
    by_cases h1 : d.2.2.2.1[k].2.1 = id
    · have hc : touchC id d.2.2.2.1[k] = true := by simp [touchC, h1]
      exact iteP_yes h1 (held_ins he hlt hc _ (yes hc))
    · by_cases h2 : d.2.2.2.1[k].2.2.1 = id
      · have hc : touchC id d.2.2.2.1[k] = true := by simp [touchC, h2]
        exact iteP_no h1 (iteP_yes h2 (held_ins he hlt hc _ (yes hc)))
      · have hc : touchC id d.2.2.2.1[k] = false := by simp [touchC, h1, h2]
        refine iteP_no h1 (iteP_no h2 (decMK_eI (r := .str) rfl _ _ ?_))
        exact hX _ hlt ⟨_, by rw [show IntKind.i64.wrap ((k : Int) + 1) = ((k + 1 : Nat) : Int) from wrap_id _ (by omega) (by omega)], he.no hlt hc⟩
  · have : k = d.2.2.2.1.length := by omega
    subst this
    refine iteP_no (by simp) ?_
    refine chosen_tail (by have := he.2.2.2; omega) he.2.1 (R := fun y => y = Sh.enc r_ls (picks d (touchC id))) ?_
    rw [he.1, List.take_length]; rfl
end Go.Pv
