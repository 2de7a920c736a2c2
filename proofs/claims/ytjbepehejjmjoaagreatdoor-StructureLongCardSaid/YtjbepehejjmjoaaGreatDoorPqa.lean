/-
  Packages; equality of lists, shapes, parts and packages.
-/
import Derived.Test.YtjbepehejjmjoaaGreatDoorPsg
set_option linter.unusedSimpArgs false
set_option linter.unusedVariables false
set_option maxRecDepth 100000
namespace Go.Pv
open Go Go.Proofs

/-! ### Equality as a bool -/
noncomputable def eqB {α : Type} (a b : α) : Bool := @decide (a = b) (Classical.propDecidable _)
theorem eqB_iff {α : Type} {a b : α} : eqB a b = true ↔ a = b := by unfold eqB; exact @decide_eq_true_iff _ (Classical.propDecidable _)
@[simp] theorem eqB_self {α : Type} (a : α) : eqB a a = true := eqB_iff.2 rfl
theorem eqB_no {α : Type} {a b : α} (h : ¬ a = b) : eqB a b = false := by
  cases hc : eqB a b with
  | false => rfl
  | true => exact absurd (eqB_iff.1 hc) h
theorem eqB_dec {α : Type} {a b : α} (i : Decidable (a = b)) : @decide (a = b) i = eqB a b := by
  by_cases h : a = b
  · rw [eqB_iff.2 h]; simp [h]
  · rw [eqB_no h]; simp [h]
theorem iteP_and (c d : Bool) (r : T) : iteP c (T.v (Value.bool d) = r) (T.v (Value.bool false) = r) = (T.v (Value.bool (c && d)) = r) := by cases c <;> simp [iteP]
theorem iteP_nand (c d : Bool) (r : T) : iteP (!c) (T.v (Value.bool false) = r) (T.v (Value.bool d) = r) = (T.v (Value.bool (c && d)) = r) := by cases c <;> simp [iteP]
theorem enc_b (x : Bool) : Sh.enc r_b x = T.v (Value.bool x) := rfl
theorem r_b_call (y : Bool) (K : Bool → Prop) : callK [(false, Sy.bool)] (some (Sh.enc r_b y)) K = K y := callK_enc (s := r_b) rfl y K
/-- A loop that compares two lists, place by place. -/
theorem same_loop {r : Sy} {l m : List r.den} (hlen : l.length = m.length) (hl : l.length ≤ 2 ^ 47) (test : r.den → r.den → Bool) (ht : ∀ x y, test x y = true ↔ x = y) {R : T → Prop} (hR : R (T.v (Value.bool (eqB l m)))) :
    loopK (Int × PUnit) (fun (X : Int × PUnit → Prop) (s : Int × PUnit) => iteP (decide (s.fst < (↑(List.map r.enc l).length : Int))) (rowsK r (List.map r.enc l) s.fst fun y => rowsK r (List.map r.enc m) s.fst fun z => iteP (!(test y z)) (R (T.v (Value.bool false))) (X (IntKind.i64.wrap (s.fst + 1), ()))) (R (T.v (Value.bool true)))) (0, ()) := by
  refine loopK_ix l.length (fun k s => s = ((k : Int), ()) ∧ (l = m ↔ l.drop k = m.drop k)) ⟨rfl, by simp⟩ ?_
  rintro X k s hk ⟨rfl, he⟩ hX
  dsimp only
  by_cases hlt : k < l.length
  · have hlt2 : k < m.length := by omega
    refine iteP_yes (by simp [hlt]) ?_
    rw [rowsK_at hlt, rowsK_at hlt2]
    rw [List.drop_eq_getElem_cons hlt, List.drop_eq_getElem_cons hlt2, List.cons.injEq] at he
    by_cases h1 : l[k] = m[k]
    · rw [(ht _ _).2 h1, Bool.not_true, iteP_f]
      refine hX _ hlt ⟨by rw [show IntKind.i64.wrap ((k : Int) + 1) = ((k + 1 : Nat) : Int) from wrap_id _ (by omega) (by omega)], ?_⟩
      rw [he]; exact ⟨fun h => h.2, fun h => ⟨h1, h⟩⟩
    · have : test l[k] m[k] = false := by
        cases hc : test l[k] m[k] with
        | false => rfl
        | true => exact absurd ((ht _ _).1 hc) h1
      rw [this, Bool.not_false, iteP_t]
      rwa [eqB_no fun h => h1 (he.1 h).1] at hR
  · have : k = l.length := by omega
    subst this
    refine iteP_no (by simp) ?_
    rwa [eqB_iff.2 (he.2 (by rw [List.drop_length, hlen, List.drop_length]))] at hR
/-- The lengths first, then the elements. -/
theorem same_all {r : Sy} {l m : List r.den} (hl : l.length ≤ 2 ^ 47) (test : r.den → r.den → Bool) (ht : ∀ x y, test x y = true ↔ x = y) {R : T → Prop} (hR : R (T.v (Value.bool (eqB l m)))) :
    iteP (!decide ((↑(List.map r.enc l).length : Int) = (↑(List.map r.enc m).length : Int))) (R (T.v (Value.bool false))) (loopK (Int × PUnit) (fun (X : Int × PUnit → Prop) (s : Int × PUnit) => iteP (decide (s.fst < (↑(List.map r.enc l).length : Int))) (rowsK r (List.map r.enc l) s.fst fun y => rowsK r (List.map r.enc m) s.fst fun z => iteP (!(test y z)) (R (T.v (Value.bool false))) (X (IntKind.i64.wrap (s.fst + 1), ()))) (R (T.v (Value.bool true)))) (0, ())) := by
  by_cases hlen : l.length = m.length
  · rw [show (!decide ((↑(List.map r.enc l).length : Int) = (↑(List.map r.enc m).length : Int))) = false by simp [hlen], iteP_f]
    exact same_loop hlen hl test ht hR
  · rw [show (!decide ((↑(List.map r.enc l).length : Int) = (↑(List.map r.enc m).length : Int))) = true by simp; omega, iteP_t]
    rwa [eqB_no fun h => hlen (by rw [h])] at hR

def packOf (d : TDesign) (id : ByteArray) : Option TPackage := d.2.2.2.2.1.find? fun s => decide (s.1 = id)
def noPack : TPackage := (⟨#[]⟩, ⟨#[]⟩, [], 0, [])
def sp_pack17 (x : TDesign × ByteArray) : Option T := some (Sh.enc [(true, yPackage), (false, .bool)] (found noPack (packOf x.1 x.2)))
set_option maxRecDepth 100000
noncomputable def E_pack17 : Env := Env.of []
def H_pack17 : FuncId → Hint := fun f => match f == 90 with | true => ⟨fun r => match r == 2 with | true => .inv [.val 6 false (.int .i64), .fix 1] | false => .none, fun _ _ => none, fun _ => none⟩ | false => noHint
theorem Eok_pack17 : EnvOk Tryz.prog E_pack17 := EnvOk.nil _
def F_pack17 (a0 : TDesign) (a1 : ByteArray) (R : T → Prop) : Prop :=
  sameK
  (Box.rows false
    [[D.p (T.v (Value.string { data := #[] })), D.p (T.v (Value.string { data := #[] })),
        D.p (T.v (Value.slice none 0 0)), D.p (T.v (Value.int IntKind.i64 0)),
        D.p (T.v (Value.slice none 0 0))]])
  (Box.rows false
    [[D.p (T.v (Value.string { data := #[] })), D.p (T.v (Value.string { data := #[] })),
        D.p (T.v (Value.slice none 0 0)), D.p (T.v (Value.int IntKind.i64 0)),
        D.p (T.v (Value.slice none 0 0))]])
  (loopK (Int × PUnit × PUnit)
    (fun (X0 : Int × PUnit × PUnit → Prop) (s1 : Int × PUnit × PUnit) =>
      iteP (decide (s1.fst < (↑(List.map yPackage.enc a0.snd.snd.snd.snd.fst).length : Int)))
        (rowsK yPackage (List.map yPackage.enc a0.snd.snd.snd.snd.fst) s1.fst
          fun (y2 : TPackage) =>
          iteP (decide (y2.fst = a1))
            (rowsK yPackage (List.map yPackage.enc a0.snd.snd.snd.snd.fst) s1.fst
              fun (y3 : TPackage) =>
              R (T.tup [encV true yPackage y3, T.v (Value.bool true)]))
            (sameK
              (Box.rows false
                [[D.p (T.v (Value.string { data := #[] })),
                    D.p (T.v (Value.string { data := #[] })),
                    D.p (T.v (Value.slice none 0 0)),
                    D.p (T.v (Value.int IntKind.i64 0)),
                    D.p (T.v (Value.slice none 0 0))]])
              (Box.rows false
                [[D.p (T.v (Value.string { data := #[] })),
                    D.p (T.v (Value.string { data := #[] })),
                    D.p (T.v (Value.slice none 0 0)),
                    D.p (T.v (Value.int IntKind.i64 0)),
                    D.p (T.v (Value.slice none 0 0))]])
              (X0 (IntKind.i64.wrap (s1.fst + 1), (), ()))))
        (R
          (T.tup
            [T.agg
                [T.v (Value.string { data := #[] }), T.v (Value.string { data := #[] }),
                  T.sl false [], T.v (Value.int IntKind.i64 0), T.sl false []],
              T.v (Value.bool false)])))
    (0, (), ()))
theorem F_pack17_eq (a0 : TDesign) (a1 : ByteArray) (R : T → Prop) : sxTop stdC2 Tryz.prog E_pack17 H_pack17 8 90 [encV true yDesign a0, encV false Sy.str a1] R = F_pack17 a0 a1 R := by kernel_rfl
abbrev s_pack17 : Sh := [(true, yDesign), (false, Sy.str)]
abbrev r_pack17 : Sh := [(true, yPackage), (false, Sy.bool)]
theorem r_pack17_call (y : Sh.den r_pack17) (K : Sh.den r_pack17 → Prop) : callK r_pack17 (some (Sh.enc r_pack17 y)) K = K y := callK_enc rfl y K

noncomputable def g_pack17 : List T → Option (T) := gS s_pack17 sp_pack17
theorem g_pack17_at {a0 : TDesign} {a1 : ByteArray} : g_pack17 [encV true yDesign a0, T.v (Value.string a1)] = sp_pack17 (a0, a1) := gS_enc (s := s_pack17) rfl (a0, a1) rfl
theorem g_pack17_op {u0 u1 u2 u3 u4 u5 u6} : g_pack17 [T.agg
    [T.v (Value.string u0), T.sl false (List.map yNode.enc u1),
      T.sl false (List.map yPart.enc u2),
      T.sl false (List.map ySeam.enc u3),
      T.sl false (List.map yPackage.enc u4),
      T.sl false (List.map yNeed.enc u5)],
  T.v (Value.string u6)] = sp_pack17 ((u0, (u1, (u2, (u3, (u4, u5))))), u6) := gS_enc (s := s_pack17) rfl ((u0, (u1, (u2, (u3, (u4, u5))))), u6) rfl
theorem of_pack17 (h : ∀ (a0 : TDesign) (a1 : ByteArray) (r : T), sp_pack17 (a0, a1) = some r → BdSh s_pack17 (a0, a1) → F_pack17 a0 a1 (fun y => y = r)) : PureFn Tryz.prog 90 g_pack17 :=
  pureFn_S (E := E_pack17) (Hs := H_pack17) Eok_pack17 mixed' plain' (noHeap_of rfl) 8 ⟨_, _, Tryz.func90, rfl⟩ rfl fun x r h1 h2 => by
    obtain ⟨a0, a1⟩ := x
    rw [show Sh.encs s_pack17 (a0, a1) = [encV true yDesign a0, encV false Sy.str a1] from rfl, F_pack17_eq]
    exact h a0 a1 r h1 h2

theorem fn_pack17 : PureFn Tryz.prog 90 g_pack17 := of_pack17 fun d id r h hb => by
  have hl : d.2.2.2.2.1.length ≤ 2 ^ 47 := hb.1.2.2.2.2.1.1
  unfold F_pack17
  rw [sameK_self]
  refine loopK_ix d.2.2.2.2.1.length (fun k s => s = ((k : Int), (), ()) ∧ (d.2.2.2.2.1.drop k).find? (fun s => decide (s.1 = id)) = packOf d id) ⟨rfl, rfl⟩ ?_
  rintro X k s hk ⟨rfl, hf⟩ hX
  simp only [List.length_map, len_lt, sameK_self]
  by_cases hlt : k < d.2.2.2.2.1.length
  · rw [find_drop hlt] at hf
    simp only [hlt, decide_true, iteP, rowsK_at (r := yPackage) hlt]
    cases hc : decide (d.2.2.2.2.1[k].1 = id) with
    | true =>
      simp only [hc, if_true] at hf
      simp only [sp_pack17, ← hf] at h
      cases h; rfl
    | false =>
      simp only [hc] at hf
      refine hX _ hlt ⟨?_, hf⟩
      simp only [Prod.mk.injEq, and_true]
      exact wrap_id _ (by omega) (by omega)
  · have : k = d.2.2.2.2.1.length := by omega
    subst this
    simp only [List.drop_length, List.find?_nil] at hf
    simp only [sp_pack17, ← hf] at h
    simp only [hlt, decide_false, iteP]
    cases h; rfl
theorem cl_cloneStr : CloneP Tryz.prog 92 1 16 := ⟨fun R => by kernel_rfl, fun fl R => by kernel_rfl, fun fl a rows R => by kernel_rfl⟩
noncomputable def g_cloneStr : List T → Option T := gS [(false, .li .str)] (spCloneP .str 16)
theorem g_cloneStr_at {u0} : g_cloneStr [T.sl false (List.map (Sy.enc .str) u0)] = spCloneP .str 16 u0 := gS_enc (s := [(false, .li .str)]) rfl u0 rfl
theorem fn_cloneStr : PureFn Tryz.prog 92 g_cloneStr := cloneP_of mixed' plain' ⟨_, _, Tryz.func92, rfl⟩ cl_cloneStr

def okPack (p : TPackage) : Bool := okLen 16 p.2.2.1.length && okLen 16 p.2.2.2.2.length
def okK (d : TDesign) : Bool := d.2.2.2.2.1.all okPack
def onlyK (d : TDesign) (t : T) : Option T := match okK d with
  | true => some t
  | false => none
theorem onlyK_of {d : TDesign} {t r : T} (h : onlyK d t = some r) : okK d = true ∧ r = t := by
  unfold onlyK at h; split at h
  · cases h; exact ⟨by assumption, rfl⟩
  · cases h
theorem onlyK_ok {d : TDesign} (t : T) (h : okK d = true) : onlyK d t = some t := by unfold onlyK; rw [h]
def sp_pack (x : TDesign × ByteArray) : Option T := onlyK x.1 (Sh.enc [(true, yPackage), (false, .bool)] (found noPack (packOf x.1 x.2)))
set_option maxRecDepth 100000
noncomputable def E_pack : Env := Env.of [(92, .pure g_cloneStr)]
def H_pack : FuncId → Hint := fun f => match f == 41 with | true => ⟨fun r => match r == 2 with | true => .inv [.val 11 false (.int .i64), .fix 1] | false => .none, fun _ _ => none, fun _ => none⟩ | false => noHint
theorem Eok_pack : EnvOk Tryz.prog E_pack := EnvOk.cons (x := .pure g_cloneStr) fn_cloneStr (EnvOk.nil _)
def F_pack (a0 : TDesign) (a1 : ByteArray) (R : T → Prop) : Prop :=
  sameK
  (Box.rows false
    [[D.p (T.v (Value.string { data := #[] })), D.p (T.v (Value.string { data := #[] })),
        D.p (T.v (Value.slice none 0 0)), D.p (T.v (Value.int IntKind.i64 0)),
        D.p (T.v (Value.slice none 0 0))]])
  (Box.rows false
    [[D.p (T.v (Value.string { data := #[] })), D.p (T.v (Value.string { data := #[] })),
        D.p (T.v (Value.slice none 0 0)), D.p (T.v (Value.int IntKind.i64 0)),
        D.p (T.v (Value.slice none 0 0))]])
  (loopK (Int × PUnit × PUnit)
    (fun (X0 : Int × PUnit × PUnit → Prop) (s1 : Int × PUnit × PUnit) =>
      iteP (decide (s1.fst < (↑(List.map yPackage.enc a0.snd.snd.snd.snd.fst).length : Int)))
        (rowsK yPackage (List.map yPackage.enc a0.snd.snd.snd.snd.fst) s1.fst
          fun (y2 : TPackage) =>
          iteP (decide (y2.fst = a1))
            (callK [(false, Sy.str.li)]
              (g_cloneStr [T.sl false (List.map Sy.str.enc y2.snd.snd.fst)])
              fun (y3 : List ByteArray) =>
              callK [(false, Sy.str.li)]
                (g_cloneStr [T.sl false (List.map Sy.str.enc y2.snd.snd.snd.snd)])
                fun (y4 : List ByteArray) =>
                R
                  (T.tup
                    [T.agg
                        [T.v (Value.string y2.fst), T.v (Value.string y2.snd.fst),
                          T.sl false (List.map Sy.str.enc y3),
                          T.v (Value.int IntKind.i64 y2.snd.snd.snd.fst),
                          T.sl false (List.map Sy.str.enc y4)],
                      T.v (Value.bool true)]))
            (sameK
              (Box.rows false
                [[D.p (T.v (Value.string { data := #[] })),
                    D.p (T.v (Value.string { data := #[] })),
                    D.p (T.v (Value.slice none 0 0)),
                    D.p (T.v (Value.int IntKind.i64 0)),
                    D.p (T.v (Value.slice none 0 0))]])
              (Box.rows false
                [[D.p (T.v (Value.string { data := #[] })),
                    D.p (T.v (Value.string { data := #[] })),
                    D.p (T.v (Value.slice none 0 0)),
                    D.p (T.v (Value.int IntKind.i64 0)),
                    D.p (T.v (Value.slice none 0 0))]])
              (X0 (IntKind.i64.wrap (s1.fst + 1), (), ()))))
        (R
          (T.tup
            [T.agg
                [T.v (Value.string { data := #[] }), T.v (Value.string { data := #[] }),
                  T.sl false [], T.v (Value.int IntKind.i64 0), T.sl false []],
              T.v (Value.bool false)])))
    (0, (), ()))
theorem F_pack_eq (a0 : TDesign) (a1 : ByteArray) (R : T → Prop) : sxTop stdC2 Tryz.prog E_pack H_pack 8 41 [encV true yDesign a0, encV false Sy.str a1] R = F_pack a0 a1 R := by kernel_rfl
abbrev s_pack : Sh := [(true, yDesign), (false, Sy.str)]
abbrev r_pack : Sh := [(true, yPackage), (false, Sy.bool)]
theorem r_pack_call (y : Sh.den r_pack) (K : Sh.den r_pack → Prop) : callK r_pack (some (Sh.enc r_pack y)) K = K y := callK_enc rfl y K

noncomputable def g_pack : List T → Option (T) := gS s_pack sp_pack
theorem g_pack_at {a0 : TDesign} {a1 : ByteArray} : g_pack [encV true yDesign a0, T.v (Value.string a1)] = sp_pack (a0, a1) := gS_enc (s := s_pack) rfl (a0, a1) rfl
theorem g_pack_op {u0 u1 u2 u3 u4 u5 u6} : g_pack [T.agg
    [T.v (Value.string u0), T.sl false (List.map yNode.enc u1),
      T.sl false (List.map yPart.enc u2),
      T.sl false (List.map ySeam.enc u3),
      T.sl false (List.map yPackage.enc u4),
      T.sl false (List.map yNeed.enc u5)],
  T.v (Value.string u6)] = sp_pack ((u0, (u1, (u2, (u3, (u4, u5))))), u6) := gS_enc (s := s_pack) rfl ((u0, (u1, (u2, (u3, (u4, u5))))), u6) rfl
theorem of_pack (h : ∀ (a0 : TDesign) (a1 : ByteArray) (r : T), sp_pack (a0, a1) = some r → BdSh s_pack (a0, a1) → F_pack a0 a1 (fun y => y = r)) : PureFn Tryz.prog 41 g_pack :=
  pureFn_S (E := E_pack) (Hs := H_pack) Eok_pack mixed' plain' (noHeap_of rfl) 8 ⟨_, _, Tryz.func41, rfl⟩ rfl fun x r h1 h2 => by
    obtain ⟨a0, a1⟩ := x
    rw [show Sh.encs s_pack (a0, a1) = [encV true yDesign a0, encV false Sy.str a1] from rfl, F_pack_eq]
    exact h a0 a1 r h1 h2

theorem fn_pack : PureFn Tryz.prog 41 g_pack := of_pack fun d id r h hb => by
  have hl : d.2.2.2.2.1.length ≤ 2 ^ 47 := hb.1.2.2.2.2.1.1
  obtain ⟨hok, rfl⟩ := onlyK_of h
  clear h
  unfold F_pack
  rw [sameK_self]
  refine loopK_ix d.2.2.2.2.1.length (fun k s => s = ((k : Int), (), ()) ∧ (d.2.2.2.2.1.drop k).find? (fun s => decide (s.1 = id)) = packOf d id) ⟨rfl, rfl⟩ ?_
  rintro X k s hk ⟨rfl, hf⟩ hX
  simp only [List.length_map, len_lt, sameK_self]
  by_cases hlt : k < d.2.2.2.2.1.length
  · rw [find_drop hlt] at hf
    have hp : okPack d.2.2.2.2.1[k] = true := List.all_eq_true.1 hok _ (List.getElem_mem hlt)
    simp only [hlt, decide_true, iteP, rowsK_at (r := yPackage) hlt]
    unfold okPack at hp
    simp only [Bool.and_eq_true] at hp
    cases hc : decide (d.2.2.2.2.1[k].1 = id) with
    | true =>
      simp only [hc, if_true] at hf
      rw [← hf]
      refine callK_some (s := [(false, .li .str)]) (y := d.2.2.2.2.1[k].2.2.1) (by rw [g_cloneStr_at, spCloneP, spClone_ok hp.1]; rfl) ?_
      refine callK_some (s := [(false, .li .str)]) (y := d.2.2.2.2.1[k].2.2.2.2) (by rw [g_cloneStr_at, spCloneP, spClone_ok hp.2]; rfl) ?_
      rfl
    | false =>
      simp only [hc] at hf
      refine hX _ hlt ⟨?_, hf⟩
      simp only [Prod.mk.injEq, and_true]
      exact wrap_id _ (by omega) (by omega)
  · have : k = d.2.2.2.2.1.length := by omega
    subst this
    simp only [List.drop_length, List.find?_nil] at hf
    rw [← hf]
    simp only [hlt, decide_false, iteP]
    rfl

noncomputable def sp_same13 (x : List TPoint × List TPoint) : Option T := some (Sh.enc r_b (eqB x.1 x.2))
noncomputable def sp_sameSh (x : TShape × TShape) : Option T := some (Sh.enc r_b (eqB x.1 x.2))
noncomputable def sp_samePart (x : TPart × TPart) : Option T := some (Sh.enc r_b (eqB x.1 x.2))
noncomputable def sp_samePart17 := sp_samePart
noncomputable def sp_sameS (x : List ByteArray × List ByteArray) : Option T := some (Sh.enc r_b (eqB x.1 x.2))
noncomputable def sp_samePack (x : TPackage × TPackage) : Option T := some (Sh.enc r_b (eqB x.1 x.2))
set_option maxRecDepth 100000
noncomputable def E_sameS : Env := Env.of []
def H_sameS : FuncId → Hint := fun f => match f == 20 with | true => ⟨fun r => match r == 4 with | true => .inv [.val 5 false (.int .i64)] | false => .none, fun _ _ => none, fun _ => none⟩ | false => noHint
theorem Eok_sameS : EnvOk Tryz.prog E_sameS := EnvOk.nil _
def F_sameS (a0 : List ByteArray) (a1 : List ByteArray) (R : T → Prop) : Prop :=
  iteP (!decide ((↑(List.map Sy.str.enc a0).length : Int) = (↑(List.map Sy.str.enc a1).length : Int)))
  (R (T.v (Value.bool false)))
  (loopK (Int × PUnit)
    (fun (X0 : Int × PUnit → Prop) (s1 : Int × PUnit) =>
      iteP (decide (s1.fst < (↑(List.map Sy.str.enc a0).length : Int)))
        (rowsK Sy.str (List.map Sy.str.enc a0) s1.fst fun (y2 : ByteArray) =>
          rowsK Sy.str (List.map Sy.str.enc a1) s1.fst fun (y3 : ByteArray) =>
            iteP (!decide (y2 = y3)) (R (T.v (Value.bool false)))
              (X0 (IntKind.i64.wrap (s1.fst + 1), ())))
        (R (T.v (Value.bool true))))
    (0, ()))
theorem F_sameS_eq (a0 : List ByteArray) (a1 : List ByteArray) (R : T → Prop) : sxTop stdC2 Tryz.prog E_sameS H_sameS 8 20 [encV false Sy.str.li a0, encV false Sy.str.li a1] R = F_sameS a0 a1 R := by kernel_rfl
abbrev s_sameS : Sh := [(false, Sy.str.li), (false, Sy.str.li)]
abbrev r_sameS : Sh := [(false, Sy.bool)]
theorem r_sameS_call (y : Sh.den r_sameS) (K : Sh.den r_sameS → Prop) : callK r_sameS (some (Sh.enc r_sameS y)) K = K y := callK_enc rfl y K

noncomputable def g_sameS : List T → Option (T) := gS s_sameS sp_sameS
theorem g_sameS_at {a0 : List ByteArray} {a1 : List ByteArray} : g_sameS [T.sl false (List.map Sy.str.enc a0), T.sl false (List.map Sy.str.enc a1)] = sp_sameS (a0, a1) := gS_enc (s := s_sameS) rfl (a0, a1) rfl
theorem g_sameS_op {u0 u1} : g_sameS [T.sl false (List.map Sy.str.enc u0), T.sl false (List.map Sy.str.enc u1)] = sp_sameS (u0, u1) := gS_enc (s := s_sameS) rfl (u0, u1) rfl
theorem of_sameS (h : ∀ (a0 : List ByteArray) (a1 : List ByteArray) (r : T), sp_sameS (a0, a1) = some r → BdSh s_sameS (a0, a1) → F_sameS a0 a1 (fun y => y = r)) : PureFn Tryz.prog 20 g_sameS :=
  pureFn_S (E := E_sameS) (Hs := H_sameS) Eok_sameS mixed' plain' (noHeap_of rfl) 8 ⟨_, _, Tryz.func20, rfl⟩ rfl fun x r h1 h2 => by
    obtain ⟨a0, a1⟩ := x
    rw [show Sh.encs s_sameS (a0, a1) = [encV false Sy.str.li a0, encV false Sy.str.li a1] from rfl, F_sameS_eq]
    exact h a0 a1 r h1 h2

theorem fn_sameS : PureFn Tryz.prog 20 g_sameS := of_sameS fun a b r h hb => by
  cases h
  unfold F_sameS
  exact same_all (r := .str) (R := fun y => y = Sh.enc r_b (eqB a b)) hb.1.1 _ (fun x y => decide_eq_true_iff) rfl
end Go.Pv
