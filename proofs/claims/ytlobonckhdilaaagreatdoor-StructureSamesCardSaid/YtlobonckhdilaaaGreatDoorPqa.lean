/-
  Packages; equality of lists, shapes, parts and packages.
-/
import Derived.Test.YtlobonckhdilaaaGreatDoorPsg
set_option linter.unusedSimpArgs false
set_option linter.unusedVariables false
set_option maxRecDepth 100000
namespace Go.Pv
open Go Go.Proofs

/-! ### Equality as a bool -/
noncomputable def eqB {α : Type} (a b : α) : Bool := @decide (a = b) (Classical.propDecidable _)
theorem eqB_iff {α : Type} {a b : α} : eqB a b = true ↔ a = b := by unfold eqB; exact @decide_eq_true_iff _ (Classical.propDecidable _)
@[simp] theorem eqB_self {α : Type} (a : α) : eqB a a = true := eqB_iff.2 rfl
theorem eqB_no {α : Type} {a b : α} (h : ¬ a = b) : eqB a b = false := by
  cases hc : eqB a b with
  | false => rfl
  | true => exact absurd (eqB_iff.1 hc) h
theorem eqB_dec {α : Type} {a b : α} (i : Decidable (a = b)) : @decide (a = b) i = eqB a b := by
  by_cases h : a = b
  · rw [eqB_iff.2 h]; simp [h]
  · rw [eqB_no h]; simp [h]
theorem iteP_and (c d : Bool) (r : T) : iteP c (T.v (Value.bool d) = r) (T.v (Value.bool false) = r) = (T.v (Value.bool (c && d)) = r) := by cases c <;> simp [iteP]
theorem iteP_nand (c d : Bool) (r : T) : iteP (!c) (T.v (Value.bool false) = r) (T.v (Value.bool d) = r) = (T.v (Value.bool (c && d)) = r) := by cases c <;> simp [iteP]
theorem enc_b (x : Bool) : Sh.enc r_b x = T.v (Value.bool x) := rfl
theorem r_b_call (y : Bool) (K : Bool → Prop) : callK [(false, Sy.bool)] (some (Sh.enc r_b y)) K = K y := callK_enc (s := r_b) rfl y K
/-- A loop that compares two lists, place by place. -/
theorem same_loop {r : Sy} {l m : List r.den} (hlen : l.length = m.length) (hl : l.length ≤ 2 ^ 47) (test : r.den → r.den → Bool) (ht : ∀ x y, test x y = true ↔ x = y) {R : T → Prop} (hR : R (T.v (Value.bool (eqB l m)))) :
    loopK (Int × PUnit) (fun (X : Int × PUnit → Prop) (s : Int × PUnit) => iteP (decide (s.fst < (↑(List.map r.enc l).length : Int))) (rowsK r (List.map r.enc l) s.fst fun y => rowsK r (List.map r.enc m) s.fst fun z => iteP (!(test y z)) (R (T.v (Value.bool false))) (X (IntKind.i64.wrap (s.fst + 1), ()))) (R (T.v (Value.bool true)))) (0, ()) := by
  refine loopK_ix l.length (fun k s => s = ((k : Int), ()) ∧ (l = m ↔ l.drop k = m.drop k)) ⟨rfl, by simp⟩ ?_
  rintro X k s hk ⟨rfl, he⟩ hX
  dsimp only
  by_cases hlt : k < l.length
  · have hlt2 : k < m.length := by omega
    refine iteP_yes (by simp [hlt]) ?_
    rw [rowsK_at hlt, rowsK_at hlt2]
    rw [List.drop_eq_getElem_cons hlt, List.drop_eq_getElem_cons hlt2, List.cons.injEq] at he
    by_cases h1 : l[k] = m[k]
    · rw [(ht _ _).2 h1, Bool.not_true, iteP_f]
      refine hX _ hlt ⟨by rw [show IntKind.i64.wrap ((k : Int) + 1) = ((k + 1 : Nat) : Int) from wrap_id _ (by omega) (by omega)], ?_⟩
      rw [he]; exact ⟨fun h => h.2, fun h => ⟨h1, h⟩⟩
    · have : test l[k] m[k] = false := by
        cases hc : test l[k] m[k] with
        | false => rfl
        | true => exact absurd ((ht _ _).1 hc) h1
      rw [this, Bool.not_false, iteP_t]
      rwa [eqB_no fun h => h1 (he.1 h).1] at hR
  · have : k = l.length := by omega
    subst this
    refine iteP_no (by simp) ?_
    rwa [eqB_iff.2 (he.2 (by rw [List.drop_length, hlen, List.drop_length]))] at hR
/-- The lengths first, then the elements. -/
theorem same_all {r : Sy} {l m : List r.den} (hl : l.length ≤ 2 ^ 47) (test : r.den → r.den → Bool) (ht : ∀ x y, test x y = true ↔ x = y) {R : T → Prop} (hR : R (T.v (Value.bool (eqB l m)))) :
    iteP (!decide ((↑(List.map r.enc l).length : Int) = (↑(List.map r.enc m).length : Int))) (R (T.v (Value.bool false))) (loopK (Int × PUnit) (fun (X : Int × PUnit → Prop) (s : Int × PUnit) => iteP (decide (s.fst < (↑(List.map r.enc l).length : Int))) (rowsK r (List.map r.enc l) s.fst fun y => rowsK r (List.map r.enc m) s.fst fun z => iteP (!(test y z)) (R (T.v (Value.bool false))) (X (IntKind.i64.wrap (s.fst + 1), ()))) (R (T.v (Value.bool true)))) (0, ())) := by
  by_cases hlen : l.length = m.length
  · rw [show (!decide ((↑(List.map r.enc l).length : Int) = (↑(List.map r.enc m).length : Int))) = false by simp [hlen], iteP_f]
    exact same_loop hlen hl test ht hR
  · rw [show (!decide ((↑(List.map r.enc l).length : Int) = (↑(List.map r.enc m).length : Int))) = true by simp; omega, iteP_t]
    rwa [eqB_no fun h => hlen (by rw [h])] at hR

def packOf (d : TDesign) (id : ByteArray) : Option TPackage := d.2.2.2.2.1.find? fun s => decide (s.1 = id)
def noPack : TPackage := (⟨#[]⟩, ⟨#[]⟩, [], 0, [])
def sp_pack17 (x : TDesign × ByteArray) : Option T := some (Sh.enc [(true, yPackage), (false, .bool)] (found noPack (packOf x.1 x.2)))
set_option maxRecDepth 100000
noncomputable def E_pack17 : Env := Env.of []
def H_pack17 : FuncId → Hint := fun f => match f == 28 with | true => ⟨fun r => match r == 2 with | true => .inv [.val 6 false (.int .i64), .fix 1] | false => .none, fun _ _ => none, fun _ => none⟩ | false => noHint
theorem Eok_pack17 : EnvOk Tryz.prog E_pack17 := EnvOk.nil _
def F_pack17 (a0 : TDesign) (a1 : ByteArray) (R : T → Prop) : Prop :=
  sameK
  (Box.rows false
    [[D.p (T.v (Value.string { data := #[] })), D.p (T.v (Value.string { data := #[] })),
        D.p (T.v (Value.slice none 0 0)), D.p (T.v (Value.int IntKind.i64 0)),
        D.p (T.v (Value.slice none 0 0))]])
  (Box.rows false
    [[D.p (T.v (Value.string { data := #[] })), D.p (T.v (Value.string { data := #[] })),
        D.p (T.v (Value.slice none 0 0)), D.p (T.v (Value.int IntKind.i64 0)),
        D.p (T.v (Value.slice none 0 0))]])
  (loopK (Int × PUnit × PUnit)
    (fun (X0 : Int × PUnit × PUnit → Prop) (s1 : Int × PUnit × PUnit) =>
      iteP (decide (s1.fst < (↑(List.map yPackage.enc a0.snd.snd.snd.snd.fst).length : Int)))
        (rowsK yPackage (List.map yPackage.enc a0.snd.snd.snd.snd.fst) s1.fst
          fun (y2 : TPackage) =>
          iteP (decide (y2.fst = a1))
            (rowsK yPackage (List.map yPackage.enc a0.snd.snd.snd.snd.fst) s1.fst
              fun (y3 : TPackage) =>
              R (T.tup [encV true yPackage y3, T.v (Value.bool true)]))
            (sameK
              (Box.rows false
                [[D.p (T.v (Value.string { data := #[] })),
                    D.p (T.v (Value.string { data := #[] })),
                    D.p (T.v (Value.slice none 0 0)),
                    D.p (T.v (Value.int IntKind.i64 0)),
                    D.p (T.v (Value.slice none 0 0))]])
              (Box.rows false
                [[D.p (T.v (Value.string { data := #[] })),
                    D.p (T.v (Value.string { data := #[] })),
                    D.p (T.v (Value.slice none 0 0)),
                    D.p (T.v (Value.int IntKind.i64 0)),
                    D.p (T.v (Value.slice none 0 0))]])
              (X0 (IntKind.i64.wrap (s1.fst + 1), (), ()))))
        (R
          (T.tup
            [T.agg
                [T.v (Value.string { data := #[] }), T.v (Value.string { data := #[] }),
                  T.sl false [], T.v (Value.int IntKind.i64 0), T.sl false []],
              T.v (Value.bool false)])))
    (0, (), ()))
theorem F_pack17_eq (a0 : TDesign) (a1 : ByteArray) (R : T → Prop) : sxTop stdC2 Tryz.prog E_pack17 H_pack17 8 28 [encV true yDesign a0, encV false Sy.str a1] R = F_pack17 a0 a1 R := by kernel_rfl
abbrev s_pack17 : Sh := [(true, yDesign), (false, Sy.str)]
abbrev r_pack17 : Sh := [(true, yPackage), (false, Sy.bool)]
theorem r_pack17_call (y : Sh.den r_pack17) (K : Sh.den r_pack17 → Prop) : callK r_pack17 (some (Sh.enc r_pack17 y)) K = K y := callK_enc rfl y K

noncomputable def g_pack17 : List T → Option (T) := gS s_pack17 sp_pack17
theorem g_pack17_at {a0 : TDesign} {a1 : ByteArray} : g_pack17 [encV true yDesign a0, T.v (Value.string a1)] = sp_pack17 (a0, a1) := gS_enc (s := s_pack17) rfl (a0, a1) rfl
theorem g_pack17_op {u0 u1 u2 u3 u4 u5 u6} : g_pack17 [T.agg
    [T.v (Value.string u0), T.sl false (List.map yNode.enc u1),
      T.sl false (List.map yPart.enc u2),
      T.sl false (List.map ySeam.enc u3),
      T.sl false (List.map yPackage.enc u4),
      T.sl false (List.map yNeed.enc u5)],
  T.v (Value.string u6)] = sp_pack17 ((u0, (u1, (u2, (u3, (u4, u5))))), u6) := gS_enc (s := s_pack17) rfl ((u0, (u1, (u2, (u3, (u4, u5))))), u6) rfl
theorem of_pack17 (h : ∀ (a0 : TDesign) (a1 : ByteArray) (r : T), sp_pack17 (a0, a1) = some r → BdSh s_pack17 (a0, a1) → F_pack17 a0 a1 (fun y => y = r)) : PureFn Tryz.prog 28 g_pack17 :=
  pureFn_S (E := E_pack17) (Hs := H_pack17) Eok_pack17 mixed' plain' (noHeap_of rfl) 8 ⟨_, _, Tryz.func28, rfl⟩ rfl fun x r h1 h2 => by
    obtain ⟨a0, a1⟩ := x
    rw [show Sh.encs s_pack17 (a0, a1) = [encV true yDesign a0, encV false Sy.str a1] from rfl, F_pack17_eq]
    exact h a0 a1 r h1 h2

theorem fn_pack17 : PureFn Tryz.prog 28 g_pack17 := of_pack17 fun d id r h hb => by
  have hl : d.2.2.2.2.1.length ≤ 2 ^ 47 := hb.1.2.2.2.2.1.1
  unfold F_pack17
  rw [sameK_self]
  refine loopK_ix d.2.2.2.2.1.length (fun k s => s = ((k : Int), (), ()) ∧ (d.2.2.2.2.1.drop k).find? (fun s => decide (s.1 = id)) = packOf d id) ⟨rfl, rfl⟩ ?_
  rintro X k s hk ⟨rfl, hf⟩ hX
  simp only [List.length_map, len_lt, sameK_self]
  by_cases hlt : k < d.2.2.2.2.1.length
  · rw [find_drop hlt] at hf
    simp only [hlt, decide_true, iteP, rowsK_at (r := yPackage) hlt]
    cases hc : decide (d.2.2.2.2.1[k].1 = id) with
    | true =>
      simp only [hc, if_true] at hf
      simp only [sp_pack17, ← hf] at h
      cases h; rfl
    | false =>
      simp only [hc] at hf
      refine hX _ hlt ⟨?_, hf⟩
      simp only [Prod.mk.injEq, and_true]
      exact wrap_id _ (by omega) (by omega)
  · have : k = d.2.2.2.2.1.length := by omega
    subst this
    simp only [List.drop_length, List.find?_nil] at hf
    simp only [sp_pack17, ← hf] at h
    simp only [hlt, decide_false, iteP]
    cases h; rfl
theorem cl_cloneStr : CloneP Tryz.prog 58 1 16 := ⟨fun R => by kernel_rfl, fun fl R => by kernel_rfl, fun fl a rows R => by kernel_rfl⟩
noncomputable def g_cloneStr : List T → Option T := gS [(false, .li .str)] (spCloneP .str 16)
theorem g_cloneStr_at {u0} : g_cloneStr [T.sl false (List.map (Sy.enc .str) u0)] = spCloneP .str 16 u0 := gS_enc (s := [(false, .li .str)]) rfl u0 rfl
theorem fn_cloneStr : PureFn Tryz.prog 58 g_cloneStr := cloneP_of mixed' plain' ⟨_, _, Tryz.func58, rfl⟩ cl_cloneStr

def okPack (p : TPackage) : Bool := okLen 16 p.2.2.1.length && okLen 16 p.2.2.2.2.length
def okK (d : TDesign) : Bool := d.2.2.2.2.1.all okPack
def onlyK (d : TDesign) (t : T) : Option T := match okK d with
  | true => some t
  | false => none
theorem onlyK_of {d : TDesign} {t r : T} (h : onlyK d t = some r) : okK d = true ∧ r = t := by
  unfold onlyK at h; split at h
  · cases h; exact ⟨by assumption, rfl⟩
  · cases h
theorem onlyK_ok {d : TDesign} (t : T) (h : okK d = true) : onlyK d t = some t := by unfold onlyK; rw [h]
def sp_pack (x : TDesign × ByteArray) : Option T := onlyK x.1 (Sh.enc [(true, yPackage), (false, .bool)] (found noPack (packOf x.1 x.2)))
set_option maxRecDepth 100000
noncomputable def E_pack : Env := Env.of [(58, .pure g_cloneStr)]
def H_pack : FuncId → Hint := fun f => match f == 27 with | true => ⟨fun r => match r == 2 with | true => .inv [.val 11 false (.int .i64), .fix 1] | false => .none, fun _ _ => none, fun _ => none⟩ | false => noHint
theorem Eok_pack : EnvOk Tryz.prog E_pack := EnvOk.cons (x := .pure g_cloneStr) fn_cloneStr (EnvOk.nil _)
def F_pack (a0 : TDesign) (a1 : ByteArray) (R : T → Prop) : Prop :=
  sameK
  (Box.rows false
    [[D.p (T.v (Value.string { data := #[] })), D.p (T.v (Value.string { data := #[] })),
        D.p (T.v (Value.slice none 0 0)), D.p (T.v (Value.int IntKind.i64 0)),
        D.p (T.v (Value.slice none 0 0))]])
  (Box.rows false
    [[D.p (T.v (Value.string { data := #[] })), D.p (T.v (Value.string { data := #[] })),
        D.p (T.v (Value.slice none 0 0)), D.p (T.v (Value.int IntKind.i64 0)),
        D.p (T.v (Value.slice none 0 0))]])
  (loopK (Int × PUnit × PUnit)
    (fun (X0 : Int × PUnit × PUnit → Prop) (s1 : Int × PUnit × PUnit) =>
      iteP (decide (s1.fst < (↑(List.map yPackage.enc a0.snd.snd.snd.snd.fst).length : Int)))
        (rowsK yPackage (List.map yPackage.enc a0.snd.snd.snd.snd.fst) s1.fst
          fun (y2 : TPackage) =>
          iteP (decide (y2.fst = a1))
            (callK [(false, Sy.str.li)]
              (g_cloneStr [T.sl false (List.map Sy.str.enc y2.snd.snd.fst)])
              fun (y3 : List ByteArray) =>
              callK [(false, Sy.str.li)]
                (g_cloneStr [T.sl false (List.map Sy.str.enc y2.snd.snd.snd.snd)])
                fun (y4 : List ByteArray) =>
                R
                  (T.tup
                    [T.agg
                        [T.v (Value.string y2.fst), T.v (Value.string y2.snd.fst),
                          T.sl false (List.map Sy.str.enc y3),
                          T.v (Value.int IntKind.i64 y2.snd.snd.snd.fst),
                          T.sl false (List.map Sy.str.enc y4)],
                      T.v (Value.bool true)]))
            (sameK
              (Box.rows false
                [[D.p (T.v (Value.string { data := #[] })),
                    D.p (T.v (Value.string { data := #[] })),
                    D.p (T.v (Value.slice none 0 0)),
                    D.p (T.v (Value.int IntKind.i64 0)),
                    D.p (T.v (Value.slice none 0 0))]])
              (Box.rows false
                [[D.p (T.v (Value.string { data := #[] })),
                    D.p (T.v (Value.string { data := #[] })),
                    D.p (T.v (Value.slice none 0 0)),
                    D.p (T.v (Value.int IntKind.i64 0)),
                    D.p (T.v (Value.slice none 0 0))]])
              (X0 (IntKind.i64.wrap (s1.fst + 1), (), ()))))
        (R
          (T.tup
            [T.agg
                [T.v (Value.string { data := #[] }), T.v (Value.string { data := #[] }),
                  T.sl false [], T.v (Value.int IntKind.i64 0), T.sl false []],
              T.v (Value.bool false)])))
    (0, (), ()))
theorem F_pack_eq (a0 : TDesign) (a1 : ByteArray) (R : T → Prop) : sxTop stdC2 Tryz.prog E_pack H_pack 8 27 [encV true yDesign a0, encV false Sy.str a1] R = F_pack a0 a1 R := by kernel_rfl
abbrev s_pack : Sh := [(true, yDesign), (false, Sy.str)]
abbrev r_pack : Sh := [(true, yPackage), (false, Sy.bool)]
theorem r_pack_call (y : Sh.den r_pack) (K : Sh.den r_pack → Prop) : callK r_pack (some (Sh.enc r_pack y)) K = K y := callK_enc rfl y K

noncomputable def g_pack : List T → Option (T) := gS s_pack sp_pack
theorem g_pack_at {a0 : TDesign} {a1 : ByteArray} : g_pack [encV true yDesign a0, T.v (Value.string a1)] = sp_pack (a0, a1) := gS_enc (s := s_pack) rfl (a0, a1) rfl
theorem g_pack_op {u0 u1 u2 u3 u4 u5 u6} : g_pack [T.agg
    [T.v (Value.string u0), T.sl false (List.map yNode.enc u1),
      T.sl false (List.map yPart.enc u2),
      T.sl false (List.map ySeam.enc u3),
      T.sl false (List.map yPackage.enc u4),
      T.sl false (List.map yNeed.enc u5)],
  T.v (Value.string u6)] = sp_pack ((u0, (u1, (u2, (u3, (u4, u5))))), u6) := gS_enc (s := s_pack) rfl ((u0, (u1, (u2, (u3, (u4, u5))))), u6) rfl
theorem of_pack (h : ∀ (a0 : TDesign) (a1 : ByteArray) (r : T), sp_pack (a0, a1) = some r → BdSh s_pack (a0, a1) → F_pack a0 a1 (fun y => y = r)) : PureFn Tryz.prog 27 g_pack :=
  pureFn_S (E := E_pack) (Hs := H_pack) Eok_pack mixed' plain' (noHeap_of rfl) 8 ⟨_, _, Tryz.func27, rfl⟩ rfl fun x r h1 h2 => by
    obtain ⟨a0, a1⟩ := x
    rw [show Sh.encs s_pack (a0, a1) = [encV true yDesign a0, encV false Sy.str a1] from rfl, F_pack_eq]
    exact h a0 a1 r h1 h2

theorem fn_pack : PureFn Tryz.prog 27 g_pack := of_pack fun d id r h hb => by
  have hl : d.2.2.2.2.1.length ≤ 2 ^ 47 := hb.1.2.2.2.2.1.1
  obtain ⟨hok, rfl⟩ := onlyK_of h
  clear h
  unfold F_pack
  rw [sameK_self]
  refine loopK_ix d.2.2.2.2.1.length (fun k s => s = ((k : Int), (), ()) ∧ (d.2.2.2.2.1.drop k).find? (fun s => decide (s.1 = id)) = packOf d id) ⟨rfl, rfl⟩ ?_
  rintro X k s hk ⟨rfl, hf⟩ hX
  simp only [List.length_map, len_lt, sameK_self]
  by_cases hlt : k < d.2.2.2.2.1.length
  · rw [find_drop hlt] at hf
    have hp : okPack d.2.2.2.2.1[k] = true := List.all_eq_true.1 hok _ (List.getElem_mem hlt)
    simp only [hlt, decide_true, iteP, rowsK_at (r := yPackage) hlt]
    unfold okPack at hp
    simp only [Bool.and_eq_true] at hp
    cases hc : decide (d.2.2.2.2.1[k].1 = id) with
    | true =>
      simp only [hc, if_true] at hf
      rw [← hf]
      refine callK_some (s := [(false, .li .str)]) (y := d.2.2.2.2.1[k].2.2.1) (by rw [g_cloneStr_at, spCloneP, spClone_ok hp.1]; rfl) ?_
      refine callK_some (s := [(false, .li .str)]) (y := d.2.2.2.2.1[k].2.2.2.2) (by rw [g_cloneStr_at, spCloneP, spClone_ok hp.2]; rfl) ?_
      rfl
    | false =>
      simp only [hc] at hf
      refine hX _ hlt ⟨?_, hf⟩
      simp only [Prod.mk.injEq, and_true]
      exact wrap_id _ (by omega) (by omega)
  · have : k = d.2.2.2.2.1.length := by omega
    subst this
    simp only [List.drop_length, List.find?_nil] at hf
    rw [← hf]
    simp only [hlt, decide_false, iteP]
    rfl

noncomputable def sp_same13 (x : List TPoint × List TPoint) : Option T := some (Sh.enc r_b (eqB x.1 x.2))
noncomputable def sp_sameSh (x : TShape × TShape) : Option T := some (Sh.enc r_b (eqB x.1 x.2))
noncomputable def sp_samePart (x : TPart × TPart) : Option T := some (Sh.enc r_b (eqB x.1 x.2))
noncomputable def sp_samePart17 := sp_samePart
noncomputable def sp_sameS (x : List ByteArray × List ByteArray) : Option T := some (Sh.enc r_b (eqB x.1 x.2))
noncomputable def sp_samePack (x : TPackage × TPackage) : Option T := some (Sh.enc r_b (eqB x.1 x.2))
set_option maxRecDepth 100000
noncomputable def E_same13 : Env := Env.of []
def H_same13 : FuncId → Hint := fun f => match f == 85 with | true => ⟨fun r => match r == 4 with | true => .inv [.val 5 false (.int .i64)] | false => .none, fun _ _ => none, fun _ => none⟩ | false => noHint
theorem Eok_same13 : EnvOk Tryz.prog E_same13 := EnvOk.nil _
def F_same13 (a0 : List TPoint) (a1 : List TPoint) (R : T → Prop) : Prop :=
  iteP (!decide ((↑(List.map yPoint.enc a0).length : Int) = (↑(List.map yPoint.enc a1).length : Int)))
  (R (T.v (Value.bool false)))
  (loopK (Int × PUnit)
    (fun (X0 : Int × PUnit → Prop) (s1 : Int × PUnit) =>
      iteP (decide (s1.fst < (↑(List.map yPoint.enc a0).length : Int)))
        (rowsK yPoint (List.map yPoint.enc a0) s1.fst fun (y2 : TPoint) =>
          rowsK yPoint (List.map yPoint.enc a1) s1.fst fun (y3 : TPoint) =>
            iteP (!(decide (y2.fst = y3.fst) && (decide (y2.snd = y3.snd) && true)))
              (R (T.v (Value.bool false))) (X0 (IntKind.i64.wrap (s1.fst + 1), ())))
        (R (T.v (Value.bool true))))
    (0, ()))
theorem F_same13_eq (a0 : List TPoint) (a1 : List TPoint) (R : T → Prop) : sxTop stdC2 Tryz.prog E_same13 H_same13 8 85 [encV false yPoint.li a0, encV false yPoint.li a1] R = F_same13 a0 a1 R := by kernel_rfl
abbrev s_same13 : Sh := [(false, yPoint.li), (false, yPoint.li)]
abbrev r_same13 : Sh := [(false, Sy.bool)]
theorem r_same13_call (y : Sh.den r_same13) (K : Sh.den r_same13 → Prop) : callK r_same13 (some (Sh.enc r_same13 y)) K = K y := callK_enc rfl y K

noncomputable def g_same13 : List T → Option (T) := gS s_same13 sp_same13
theorem g_same13_at {a0 : List TPoint} {a1 : List TPoint} : g_same13 [T.sl false (List.map yPoint.enc a0), T.sl false (List.map yPoint.enc a1)] = sp_same13 (a0, a1) := gS_enc (s := s_same13) rfl (a0, a1) rfl
theorem g_same13_op {u0 u1} : g_same13 [T.sl false (List.map yPoint.enc u0), T.sl false (List.map yPoint.enc u1)] = sp_same13 (u0, u1) := gS_enc (s := s_same13) rfl (u0, u1) rfl
theorem of_same13 (h : ∀ (a0 : List TPoint) (a1 : List TPoint) (r : T), sp_same13 (a0, a1) = some r → BdSh s_same13 (a0, a1) → F_same13 a0 a1 (fun y => y = r)) : PureFn Tryz.prog 85 g_same13 :=
  pureFn_S (E := E_same13) (Hs := H_same13) Eok_same13 mixed' plain' (noHeap_of rfl) 8 ⟨_, _, Tryz.func85, rfl⟩ rfl fun x r h1 h2 => by
    obtain ⟨a0, a1⟩ := x
    rw [show Sh.encs s_same13 (a0, a1) = [encV false yPoint.li a0, encV false yPoint.li a1] from rfl, F_same13_eq]
    exact h a0 a1 r h1 h2

theorem fn_same13 : PureFn Tryz.prog 85 g_same13 := of_same13 fun a b r h hb => by
  cases h
  unfold F_same13
  refine same_all (r := yPoint) (R := fun y => y = Sh.enc r_b (eqB a b)) hb.1.1 _ (fun x y => ?_) rfl
  simp only [Bool.and_true, Bool.and_eq_true, decide_eq_true_eq, Prod.ext_iff]
set_option maxRecDepth 100000
noncomputable def E_sameSh : Env := Env.of [(85, .pure g_same13)]
def H_sameSh : FuncId → Hint := fun f => match f == 65 with | true => ⟨fun r => match r == 4 with | true => .inv [.val 5 false (.int .i64)] | false => .none, fun _ _ => none, fun _ => none⟩ | false => noHint
theorem Eok_sameSh : EnvOk Tryz.prog E_sameSh := EnvOk.cons (x := .pure g_same13) fn_same13 (EnvOk.nil _)
def F_sameSh (a0 : TShape) (a1 : TShape) (R : T → Prop) : Prop :=
  callK [(false, Sy.bool)]
  (g_same13
    [T.sl false (List.map yPoint.enc a0.fst), T.sl false (List.map yPoint.enc a1.fst)])
  fun (y0 : Bool) =>
  iteP (!y0) (R (T.v (Value.bool false)))
    (iteP
      (!decide
          ((↑(List.map yPoint.li.enc a0.snd).length : Int) =
            (↑(List.map yPoint.li.enc a1.snd).length : Int)))
      (R (T.v (Value.bool false)))
      (loopK (Int × PUnit)
        (fun (X1 : Int × PUnit → Prop) (s2 : Int × PUnit) =>
          iteP (decide (s2.fst < (↑(List.map yPoint.li.enc a0.snd).length : Int)))
            (rowsK yPoint.li (List.map yPoint.li.enc a0.snd) s2.fst fun (y3 : List TPoint) =>
              rowsK yPoint.li (List.map yPoint.li.enc a1.snd) s2.fst fun (y4 : List TPoint) =>
                callK [(false, Sy.bool)]
                  (g_same13
                    [T.sl false (List.map yPoint.enc y3), T.sl false (List.map yPoint.enc y4)])
                  fun (y5 : Bool) =>
                  iteP (!y5) (R (T.v (Value.bool false))) (X1 (IntKind.i64.wrap (s2.fst + 1), ())))
            (R (T.v (Value.bool true))))
        (0, ())))
theorem F_sameSh_eq (a0 : TShape) (a1 : TShape) (R : T → Prop) : sxTop stdC2 Tryz.prog E_sameSh H_sameSh 8 65 [encV true yShape a0, encV true yShape a1] R = F_sameSh a0 a1 R := by kernel_rfl
abbrev s_sameSh : Sh := [(true, yShape), (true, yShape)]
abbrev r_sameSh : Sh := [(false, Sy.bool)]
theorem r_sameSh_call (y : Sh.den r_sameSh) (K : Sh.den r_sameSh → Prop) : callK r_sameSh (some (Sh.enc r_sameSh y)) K = K y := callK_enc rfl y K

noncomputable def g_sameSh : List T → Option (T) := gS s_sameSh sp_sameSh
theorem g_sameSh_at {a0 : TShape} {a1 : TShape} : g_sameSh [encV true yShape a0, encV true yShape a1] = sp_sameSh (a0, a1) := gS_enc (s := s_sameSh) rfl (a0, a1) rfl
theorem g_sameSh_op {u0 u1 u2 u3} : g_sameSh [T.agg [T.sl false (List.map yPoint.enc u0), T.sl false (List.map yPoint.li.enc u1)],
  T.agg [T.sl false (List.map yPoint.enc u2), T.sl false (List.map yPoint.li.enc u3)]] = sp_sameSh ((u0, u1), (u2, u3)) := gS_enc (s := s_sameSh) rfl ((u0, u1), (u2, u3)) rfl
theorem of_sameSh (h : ∀ (a0 : TShape) (a1 : TShape) (r : T), sp_sameSh (a0, a1) = some r → BdSh s_sameSh (a0, a1) → F_sameSh a0 a1 (fun y => y = r)) : PureFn Tryz.prog 65 g_sameSh :=
  pureFn_S (E := E_sameSh) (Hs := H_sameSh) Eok_sameSh mixed' plain' (noHeap_of rfl) 8 ⟨_, _, Tryz.func65, rfl⟩ rfl fun x r h1 h2 => by
    obtain ⟨a0, a1⟩ := x
    rw [show Sh.encs s_sameSh (a0, a1) = [encV true yShape a0, encV true yShape a1] from rfl, F_sameSh_eq]
    exact h a0 a1 r h1 h2

theorem fn_sameSh : PureFn Tryz.prog 65 g_sameSh := of_sameSh fun a b r h hb => by
  cases h
  unfold F_sameSh
  have u := @g_same13_at
  simp only [u, sp_same13, r_b_call]
  by_cases h1 : a.1 = b.1
  · rw [eqB_iff.2 h1, Bool.not_true, iteP_f]
    refine same_all (r := .li yPoint) (R := fun y => y = Sh.enc r_b (eqB a b)) hb.1.2.1 _ (fun x y => eqB_iff) ?_
    show T.v (Value.bool (eqB a.2 b.2)) = T.v (Value.bool (eqB a b))
    congr 2
    rw [Bool.eq_iff_iff, eqB_iff, eqB_iff, Prod.ext_iff]
    exact ⟨fun h => ⟨h1, h⟩, fun h => h.2⟩
  · rw [eqB_no h1, Bool.not_false, iteP_t, eqB_no fun h => h1 (by rw [h])]; rfl
set_option maxRecDepth 100000
noncomputable def E_samePart : Env := Env.of [(65, .pure g_sameSh)]
def H_samePart : FuncId → Hint := fun _ => noHint
theorem Eok_samePart : EnvOk Tryz.prog E_samePart := EnvOk.cons (x := .pure g_sameSh) fn_sameSh (EnvOk.nil _)
def F_samePart (a0 : TPart) (a1 : TPart) (R : T → Prop) : Prop :=
  iteP (!decide (a0.fst = a1.fst)) (R (T.v (Value.bool false)))
  (iteP (!decide (a0.snd.fst = a1.snd.fst)) (R (T.v (Value.bool false)))
    (iteP (!decide (a0.snd.snd.fst = a1.snd.snd.fst)) (R (T.v (Value.bool false)))
      (iteP (!decide (a0.snd.snd.snd.fst = a1.snd.snd.snd.fst)) (R (T.v (Value.bool false)))
        (iteP (!decide (a0.snd.snd.snd.snd.fst = a1.snd.snd.snd.snd.fst)) (R (T.v (Value.bool false)))
          (iteP (!decide (a0.snd.snd.snd.snd.snd.fst = a1.snd.snd.snd.snd.snd.fst))
            (R (T.v (Value.bool false)))
            (callK [(false, Sy.bool)]
              (g_sameSh
                [encV true yShape a0.snd.snd.snd.snd.snd.snd.fst,
                  encV true yShape a1.snd.snd.snd.snd.snd.snd.fst])
              fun (y0 : Bool) =>
              iteP y0
                (iteP (decide (a0.snd.snd.snd.snd.snd.snd.snd.fst = a1.snd.snd.snd.snd.snd.snd.snd.fst))
                  (iteP (decide (a0.snd.snd.snd.snd.snd.snd.snd.snd.fst = a1.snd.snd.snd.snd.snd.snd.snd.snd.fst))
                    (iteP
                      (decide (a0.snd.snd.snd.snd.snd.snd.snd.snd.snd.fst = a1.snd.snd.snd.snd.snd.snd.snd.snd.snd.fst))
                      (iteP
                        (decide
                            (a0.snd.snd.snd.snd.snd.snd.snd.snd.snd.snd.fst.fst =
                              a1.snd.snd.snd.snd.snd.snd.snd.snd.snd.snd.fst.fst) &&
                          (decide
                              (a0.snd.snd.snd.snd.snd.snd.snd.snd.snd.snd.fst.snd.fst =
                                a1.snd.snd.snd.snd.snd.snd.snd.snd.snd.snd.fst.snd.fst) &&
                            (decide
                                (a0.snd.snd.snd.snd.snd.snd.snd.snd.snd.snd.fst.snd.snd =
                                  a1.snd.snd.snd.snd.snd.snd.snd.snd.snd.snd.fst.snd.snd) &&
                              true)))
                        (R
                          (T.v
                            (Value.bool
                              (decide
                                    (a0.snd.snd.snd.snd.snd.snd.snd.snd.snd.snd.snd.fst.fst =
                                      a1.snd.snd.snd.snd.snd.snd.snd.snd.snd.snd.snd.fst.fst) &&
                                  (decide
                                      (a0.snd.snd.snd.snd.snd.snd.snd.snd.snd.snd.snd.fst.snd.fst =
                                        a1.snd.snd.snd.snd.snd.snd.snd.snd.snd.snd.snd.fst.snd.fst) &&
                                    (decide
                                        (a0.snd.snd.snd.snd.snd.snd.snd.snd.snd.snd.snd.fst.snd.snd =
                                          a1.snd.snd.snd.snd.snd.snd.snd.snd.snd.snd.snd.fst.snd.snd) &&
                                      true)) &&
                                (decide
                                    (a0.snd.snd.snd.snd.snd.snd.snd.snd.snd.snd.snd.snd =
                                      a1.snd.snd.snd.snd.snd.snd.snd.snd.snd.snd.snd.snd) &&
                                  true)))))
                        (R (T.v (Value.bool false))))
                      (R (T.v (Value.bool false))))
                    (R (T.v (Value.bool false))))
                  (R (T.v (Value.bool false))))
                (R (T.v (Value.bool false)))))))))
theorem F_samePart_eq (a0 : TPart) (a1 : TPart) (R : T → Prop) : sxTop stdC2 Tryz.prog E_samePart H_samePart 8 46 [encV true yPart a0, encV true yPart a1] R = F_samePart a0 a1 R := by kernel_rfl
abbrev s_samePart : Sh := [(true, yPart), (true, yPart)]
abbrev r_samePart : Sh := [(false, Sy.bool)]
theorem r_samePart_call (y : Sh.den r_samePart) (K : Sh.den r_samePart → Prop) : callK r_samePart (some (Sh.enc r_samePart y)) K = K y := callK_enc rfl y K

noncomputable def g_samePart : List T → Option (T) := gS s_samePart sp_samePart
theorem g_samePart_at {a0 : TPart} {a1 : TPart} : g_samePart [encV true yPart a0, encV true yPart a1] = sp_samePart (a0, a1) := gS_enc (s := s_samePart) rfl (a0, a1) rfl
theorem g_samePart_op {u0 u1 u2 u3 u4 u5 u6 u7 u8 u9 u10 u11 u12 u13 u14 u15 u16 u17 u18 u19 u20 u21 u22 u23 u24 u25 u26 u27 u28 u29 u30 u31 u32 u33 u34 u35} : g_samePart [T.agg
    [T.v (Value.string u0), T.v (Value.int IntKind.i64 u1),
      T.v (Value.int IntKind.i64 u2), T.v (Value.string u3),
      T.v (Value.string u4),
      T.v (Value.int IntKind.i64 u5),
      T.sl false (List.map yPoint.enc u6),
      T.sl false (List.map yPoint.li.enc u7),
      T.v (Value.string u8),
      T.v (Value.int IntKind.i64 u9),
      T.v (Value.int IntKind.i64 u10),
      T.v (Value.int IntKind.i64 u11),
      T.v (Value.int IntKind.i64 u12),
      T.v (Value.int IntKind.i64 u13),
      T.v (Value.int IntKind.i64 u14),
      T.v (Value.int IntKind.i64 u15),
      T.v (Value.int IntKind.i64 u16),
      T.v (Value.int IntKind.i64 u17)],
  T.agg
    [T.v (Value.string u18), T.v (Value.int IntKind.i64 u19),
      T.v (Value.int IntKind.i64 u20), T.v (Value.string u21),
      T.v (Value.string u22),
      T.v (Value.int IntKind.i64 u23),
      T.sl false (List.map yPoint.enc u24),
      T.sl false (List.map yPoint.li.enc u25),
      T.v (Value.string u26),
      T.v (Value.int IntKind.i64 u27),
      T.v (Value.int IntKind.i64 u28),
      T.v (Value.int IntKind.i64 u29),
      T.v (Value.int IntKind.i64 u30),
      T.v (Value.int IntKind.i64 u31),
      T.v (Value.int IntKind.i64 u32),
      T.v (Value.int IntKind.i64 u33),
      T.v (Value.int IntKind.i64 u34),
      T.v (Value.int IntKind.i64 u35)]] = sp_samePart ((u0, (u1, (u2, (u3, (u4, (u5, ((u6, u7), (u8, (u9, (u10, ((u11, (u12, u13)), ((u14, (u15, u16)), u17)))))))))))), (u18, (u19, (u20, (u21, (u22, (u23, ((u24, u25), (u26, (u27, (u28, ((u29, (u30, u31)), ((u32, (u33, u34)), u35))))))))))))) := gS_enc (s := s_samePart) rfl ((u0, (u1, (u2, (u3, (u4, (u5, ((u6, u7), (u8, (u9, (u10, ((u11, (u12, u13)), ((u14, (u15, u16)), u17)))))))))))), (u18, (u19, (u20, (u21, (u22, (u23, ((u24, u25), (u26, (u27, (u28, ((u29, (u30, u31)), ((u32, (u33, u34)), u35))))))))))))) rfl
theorem of_samePart (h : ∀ (a0 : TPart) (a1 : TPart) (r : T), sp_samePart (a0, a1) = some r → BdSh s_samePart (a0, a1) → F_samePart a0 a1 (fun y => y = r)) : PureFn Tryz.prog 46 g_samePart :=
  pureFn_S (E := E_samePart) (Hs := H_samePart) Eok_samePart mixed' plain' (noHeap_of rfl) 8 ⟨_, _, Tryz.func46, rfl⟩ rfl fun x r h1 h2 => by
    obtain ⟨a0, a1⟩ := x
    rw [show Sh.encs s_samePart (a0, a1) = [encV true yPart a0, encV true yPart a1] from rfl, F_samePart_eq]
    exact h a0 a1 r h1 h2

theorem fn_samePart : PureFn Tryz.prog 46 g_samePart := of_samePart fun a b r h hb => by
  cases h
  unfold F_samePart
  simp only [g_sameSh_at, sp_sameSh, r_b_call]
  simp only [enc_b, iteP_and, iteP_nand]
  congr 2
  rw [Bool.eq_iff_iff, eqB_iff]
  simp only [Bool.and_true, Bool.and_eq_true, decide_eq_true_eq, eqB_iff, Prod.ext_iff, and_assoc]
set_option maxRecDepth 100000
noncomputable def E_samePart17 : Env := Env.of [(46, .pure g_samePart)]
def H_samePart17 : FuncId → Hint := fun _ => noHint
theorem Eok_samePart17 : EnvOk Tryz.prog E_samePart17 := EnvOk.cons (x := .pure g_samePart) fn_samePart (EnvOk.nil _)
def F_samePart17 (a0 : TPart) (a1 : TPart) (R : T → Prop) : Prop :=
  callK [(false, Sy.bool)] (g_samePart [encV true yPart a0, encV true yPart a1])
  fun (y0 : Bool) => R (T.v (Value.bool y0))
theorem F_samePart17_eq (a0 : TPart) (a1 : TPart) (R : T → Prop) : sxTop stdC2 Tryz.prog E_samePart17 H_samePart17 8 29 [encV true yPart a0, encV true yPart a1] R = F_samePart17 a0 a1 R := by kernel_rfl
abbrev s_samePart17 : Sh := [(true, yPart), (true, yPart)]
abbrev r_samePart17 : Sh := [(false, Sy.bool)]
theorem r_samePart17_call (y : Sh.den r_samePart17) (K : Sh.den r_samePart17 → Prop) : callK r_samePart17 (some (Sh.enc r_samePart17 y)) K = K y := callK_enc rfl y K

noncomputable def g_samePart17 : List T → Option (T) := gS s_samePart17 sp_samePart17
theorem g_samePart17_at {a0 : TPart} {a1 : TPart} : g_samePart17 [encV true yPart a0, encV true yPart a1] = sp_samePart17 (a0, a1) := gS_enc (s := s_samePart17) rfl (a0, a1) rfl
theorem g_samePart17_op {u0 u1 u2 u3 u4 u5 u6 u7 u8 u9 u10 u11 u12 u13 u14 u15 u16 u17 u18 u19 u20 u21 u22 u23 u24 u25 u26 u27 u28 u29 u30 u31 u32 u33 u34 u35} : g_samePart17 [T.agg
    [T.v (Value.string u0), T.v (Value.int IntKind.i64 u1),
      T.v (Value.int IntKind.i64 u2), T.v (Value.string u3),
      T.v (Value.string u4),
      T.v (Value.int IntKind.i64 u5),
      T.sl false (List.map yPoint.enc u6),
      T.sl false (List.map yPoint.li.enc u7),
      T.v (Value.string u8),
      T.v (Value.int IntKind.i64 u9),
      T.v (Value.int IntKind.i64 u10),
      T.v (Value.int IntKind.i64 u11),
      T.v (Value.int IntKind.i64 u12),
      T.v (Value.int IntKind.i64 u13),
      T.v (Value.int IntKind.i64 u14),
      T.v (Value.int IntKind.i64 u15),
      T.v (Value.int IntKind.i64 u16),
      T.v (Value.int IntKind.i64 u17)],
  T.agg
    [T.v (Value.string u18), T.v (Value.int IntKind.i64 u19),
      T.v (Value.int IntKind.i64 u20), T.v (Value.string u21),
      T.v (Value.string u22),
      T.v (Value.int IntKind.i64 u23),
      T.sl false (List.map yPoint.enc u24),
      T.sl false (List.map yPoint.li.enc u25),
      T.v (Value.string u26),
      T.v (Value.int IntKind.i64 u27),
      T.v (Value.int IntKind.i64 u28),
      T.v (Value.int IntKind.i64 u29),
      T.v (Value.int IntKind.i64 u30),
      T.v (Value.int IntKind.i64 u31),
      T.v (Value.int IntKind.i64 u32),
      T.v (Value.int IntKind.i64 u33),
      T.v (Value.int IntKind.i64 u34),
      T.v (Value.int IntKind.i64 u35)]] = sp_samePart17 ((u0, (u1, (u2, (u3, (u4, (u5, ((u6, u7), (u8, (u9, (u10, ((u11, (u12, u13)), ((u14, (u15, u16)), u17)))))))))))), (u18, (u19, (u20, (u21, (u22, (u23, ((u24, u25), (u26, (u27, (u28, ((u29, (u30, u31)), ((u32, (u33, u34)), u35))))))))))))) := gS_enc (s := s_samePart17) rfl ((u0, (u1, (u2, (u3, (u4, (u5, ((u6, u7), (u8, (u9, (u10, ((u11, (u12, u13)), ((u14, (u15, u16)), u17)))))))))))), (u18, (u19, (u20, (u21, (u22, (u23, ((u24, u25), (u26, (u27, (u28, ((u29, (u30, u31)), ((u32, (u33, u34)), u35))))))))))))) rfl
theorem of_samePart17 (h : ∀ (a0 : TPart) (a1 : TPart) (r : T), sp_samePart17 (a0, a1) = some r → BdSh s_samePart17 (a0, a1) → F_samePart17 a0 a1 (fun y => y = r)) : PureFn Tryz.prog 29 g_samePart17 :=
  pureFn_S (E := E_samePart17) (Hs := H_samePart17) Eok_samePart17 mixed' plain' (noHeap_of rfl) 8 ⟨_, _, Tryz.func29, rfl⟩ rfl fun x r h1 h2 => by
    obtain ⟨a0, a1⟩ := x
    rw [show Sh.encs s_samePart17 (a0, a1) = [encV true yPart a0, encV true yPart a1] from rfl, F_samePart17_eq]
    exact h a0 a1 r h1 h2

theorem fn_samePart17 : PureFn Tryz.prog 29 g_samePart17 := of_samePart17 fun a b r h hb => by
  cases h
  unfold F_samePart17
  simp only [g_samePart_at, sp_samePart, r_b_call]
  rfl
set_option maxRecDepth 100000
noncomputable def E_sameS : Env := Env.of []
def H_sameS : FuncId → Hint := fun f => match f == 11 with | true => ⟨fun r => match r == 4 with | true => .inv [.val 5 false (.int .i64)] | false => .none, fun _ _ => none, fun _ => none⟩ | false => noHint
theorem Eok_sameS : EnvOk Tryz.prog E_sameS := EnvOk.nil _
def F_sameS (a0 : List ByteArray) (a1 : List ByteArray) (R : T → Prop) : Prop :=
  iteP (!decide ((↑(List.map Sy.str.enc a0).length : Int) = (↑(List.map Sy.str.enc a1).length : Int)))
  (R (T.v (Value.bool false)))
  (loopK (Int × PUnit)
    (fun (X0 : Int × PUnit → Prop) (s1 : Int × PUnit) =>
      iteP (decide (s1.fst < (↑(List.map Sy.str.enc a0).length : Int)))
        (rowsK Sy.str (List.map Sy.str.enc a0) s1.fst fun (y2 : ByteArray) =>
          rowsK Sy.str (List.map Sy.str.enc a1) s1.fst fun (y3 : ByteArray) =>
            iteP (!decide (y2 = y3)) (R (T.v (Value.bool false)))
              (X0 (IntKind.i64.wrap (s1.fst + 1), ())))
        (R (T.v (Value.bool true))))
    (0, ()))
theorem F_sameS_eq (a0 : List ByteArray) (a1 : List ByteArray) (R : T → Prop) : sxTop stdC2 Tryz.prog E_sameS H_sameS 8 11 [encV false Sy.str.li a0, encV false Sy.str.li a1] R = F_sameS a0 a1 R := by kernel_rfl
abbrev s_sameS : Sh := [(false, Sy.str.li), (false, Sy.str.li)]
abbrev r_sameS : Sh := [(false, Sy.bool)]
theorem r_sameS_call (y : Sh.den r_sameS) (K : Sh.den r_sameS → Prop) : callK r_sameS (some (Sh.enc r_sameS y)) K = K y := callK_enc rfl y K

noncomputable def g_sameS : List T → Option (T) := gS s_sameS sp_sameS
theorem g_sameS_at {a0 : List ByteArray} {a1 : List ByteArray} : g_sameS [T.sl false (List.map Sy.str.enc a0), T.sl false (List.map Sy.str.enc a1)] = sp_sameS (a0, a1) := gS_enc (s := s_sameS) rfl (a0, a1) rfl
theorem g_sameS_op {u0 u1} : g_sameS [T.sl false (List.map Sy.str.enc u0), T.sl false (List.map Sy.str.enc u1)] = sp_sameS (u0, u1) := gS_enc (s := s_sameS) rfl (u0, u1) rfl
theorem of_sameS (h : ∀ (a0 : List ByteArray) (a1 : List ByteArray) (r : T), sp_sameS (a0, a1) = some r → BdSh s_sameS (a0, a1) → F_sameS a0 a1 (fun y => y = r)) : PureFn Tryz.prog 11 g_sameS :=
  pureFn_S (E := E_sameS) (Hs := H_sameS) Eok_sameS mixed' plain' (noHeap_of rfl) 8 ⟨_, _, Tryz.func11, rfl⟩ rfl fun x r h1 h2 => by
    obtain ⟨a0, a1⟩ := x
    rw [show Sh.encs s_sameS (a0, a1) = [encV false Sy.str.li a0, encV false Sy.str.li a1] from rfl, F_sameS_eq]
    exact h a0 a1 r h1 h2

theorem fn_sameS : PureFn Tryz.prog 11 g_sameS := of_sameS fun a b r h hb => by
  cases h
  unfold F_sameS
  exact same_all (r := .str) (R := fun y => y = Sh.enc r_b (eqB a b)) hb.1.1 _ (fun x y => decide_eq_true_iff) rfl
set_option maxRecDepth 100000
noncomputable def E_samePack : Env := Env.of [(11, .pure g_sameS)]
def H_samePack : FuncId → Hint := fun _ => noHint
theorem Eok_samePack : EnvOk Tryz.prog E_samePack := EnvOk.cons (x := .pure g_sameS) fn_sameS (EnvOk.nil _)
def F_samePack (a0 : TPackage) (a1 : TPackage) (R : T → Prop) : Prop :=
  iteP (decide (a0.fst = a1.fst))
  (iteP (decide (a0.snd.fst = a1.snd.fst))
    (iteP (decide (a0.snd.snd.snd.fst = a1.snd.snd.snd.fst))
      (callK [(false, Sy.bool)]
        (g_sameS
          [T.sl false (List.map Sy.str.enc a0.snd.snd.fst),
            T.sl false (List.map Sy.str.enc a1.snd.snd.fst)])
        fun (y0 : Bool) =>
        iteP y0
          (callK [(false, Sy.bool)]
            (g_sameS
              [T.sl false (List.map Sy.str.enc a0.snd.snd.snd.snd),
                T.sl false (List.map Sy.str.enc a1.snd.snd.snd.snd)])
            fun (y1 : Bool) => R (T.v (Value.bool y1)))
          (R (T.v (Value.bool false))))
      (R (T.v (Value.bool false))))
    (R (T.v (Value.bool false))))
  (R (T.v (Value.bool false)))
theorem F_samePack_eq (a0 : TPackage) (a1 : TPackage) (R : T → Prop) : sxTop stdC2 Tryz.prog E_samePack H_samePack 8 30 [encV true yPackage a0, encV true yPackage a1] R = F_samePack a0 a1 R := by kernel_rfl
abbrev s_samePack : Sh := [(true, yPackage), (true, yPackage)]
abbrev r_samePack : Sh := [(false, Sy.bool)]
theorem r_samePack_call (y : Sh.den r_samePack) (K : Sh.den r_samePack → Prop) : callK r_samePack (some (Sh.enc r_samePack y)) K = K y := callK_enc rfl y K

noncomputable def g_samePack : List T → Option (T) := gS s_samePack sp_samePack
theorem g_samePack_at {a0 : TPackage} {a1 : TPackage} : g_samePack [encV true yPackage a0, encV true yPackage a1] = sp_samePack (a0, a1) := gS_enc (s := s_samePack) rfl (a0, a1) rfl
theorem g_samePack_op {u0 u1 u2 u3 u4 u5 u6 u7 u8 u9} : g_samePack [T.agg
    [T.v (Value.string u0), T.v (Value.string u1),
      T.sl false (List.map Sy.str.enc u2),
      T.v (Value.int IntKind.i64 u3),
      T.sl false (List.map Sy.str.enc u4)],
  T.agg
    [T.v (Value.string u5), T.v (Value.string u6),
      T.sl false (List.map Sy.str.enc u7),
      T.v (Value.int IntKind.i64 u8),
      T.sl false (List.map Sy.str.enc u9)]] = sp_samePack ((u0, (u1, (u2, (u3, u4)))), (u5, (u6, (u7, (u8, u9))))) := gS_enc (s := s_samePack) rfl ((u0, (u1, (u2, (u3, u4)))), (u5, (u6, (u7, (u8, u9))))) rfl
theorem of_samePack (h : ∀ (a0 : TPackage) (a1 : TPackage) (r : T), sp_samePack (a0, a1) = some r → BdSh s_samePack (a0, a1) → F_samePack a0 a1 (fun y => y = r)) : PureFn Tryz.prog 30 g_samePack :=
  pureFn_S (E := E_samePack) (Hs := H_samePack) Eok_samePack mixed' plain' (noHeap_of rfl) 8 ⟨_, _, Tryz.func30, rfl⟩ rfl fun x r h1 h2 => by
    obtain ⟨a0, a1⟩ := x
    rw [show Sh.encs s_samePack (a0, a1) = [encV true yPackage a0, encV true yPackage a1] from rfl, F_samePack_eq]
    exact h a0 a1 r h1 h2

theorem fn_samePack : PureFn Tryz.prog 30 g_samePack := of_samePack fun a b r h hb => by
  cases h
  unfold F_samePack
  have u := @g_sameS_at
  simp only [u, sp_sameS, r_b_call]
  simp only [enc_b, iteP_and, iteP_nand]
  congr 2
  rw [Bool.eq_iff_iff, eqB_iff]
  simp only [Bool.and_true, Bool.and_eq_true, decide_eq_true_eq, eqB_iff, Prod.ext_iff]
  exact ⟨fun ⟨h1, h2, h3, h4, h5⟩ => ⟨h1, h2, h4, h3, h5⟩, fun ⟨h1, h2, h4, h3, h5⟩ => ⟨h1, h2, h3, h4, h5⟩⟩
end Go.Pv
