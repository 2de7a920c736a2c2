/-
  StructureBlocks: Block, Path, Parts and Blocks answer as the reference does.
-/
import Derived.Test.YtlobonckhdilaaaGreatDoorPqc
import Derived.Test.YtlobonckhdilaaaGreatDoorPkn
set_option linter.unusedSimpArgs false
set_option linter.unusedVariables false
set_option maxRecDepth 100000
namespace Go.Pv
open Go Go.Proofs
/-- A design of which lists of names may be made. -/
def smallD (d : TDesign) : Bool := decide (d.2.1.length ≤ 1000000) && decide (d.2.2.1.length ≤ 1000000)
def onlyS (d : TDesign) (t : T) : Option T := match okD d && okK d && smallD d with
  | true => some t
  | false => none
theorem onlyS_of {d : TDesign} {t r : T} (h : onlyS d t = some r) : okD d = true ∧ okK d = true ∧ (d.2.1.length ≤ 1000000 ∧ d.2.2.1.length ≤ 1000000) ∧ r = t := by
  unfold onlyS at h; split at h
  · rename_i hc
    simp only [smallD, Bool.and_eq_true, decide_eq_true_eq] at hc
    cases h; exact ⟨hc.1.1, hc.1.2, hc.2, rfl⟩
  · cases h
theorem onlyS_ok {d : TDesign} (t : T) (h1 : okD d = true) (h2 : okK d = true) (h3 : smallD d = true) : onlyS d t = some t := by unfold onlyS; rw [h1, h2, h3]; rfl
theorem small_few {d : TDesign} {n : Int} (h : few d n = true) (hn : n ≤ 1000000) : smallD d = true := by
  simp only [few, Bool.and_eq_true, decide_eq_true_eq] at h
  simp only [smallD, Bool.and_eq_true, decide_eq_true_eq]
  omega
def hasT (l : List ByteArray) (x : ByteArray) : Bool := l.any fun y => decide (y = x)
def sp_has17 (x : List ByteArray × ByteArray) : Option T := some (Sh.enc r_b (hasT x.1 x.2))
def inN (d : TDesign) (node : ByteArray) (p : TPart) : Bool := hasT (up d (pNode p)).1 node
def sp_in17 (x : TDesign × TPart × ByteArray) : Option T := some (Sh.enc r_b (inN x.1 x.2.2 x.2.1))
def blocksOf (d : TDesign) : List ByteArray := (d.2.1.filter fun n => decide (n.2.1 = 1)).map fun n => n.1
def partsIn (d : TDesign) (node : ByteArray) : List ByteArray := (d.2.2.1.filter (inN d node)).map fun p => p.1
def lastB (l : List ByteArray) : ByteArray := l.getLastD ⟨#[]⟩
def topOf (d : TDesign) (id : ByteArray) : ByteArray × Bool := if (up d id).2 = true then (lastB (up d id).1, true) else (⟨#[]⟩, false)
def blockOf (d : TDesign) (id : ByteArray) : ByteArray × Bool := match nodeOf d id with
  | some _ => topOf d id
  | none => match partOf d id with
    | some p => topOf d (pNode p)
    | none => match packOf d id with
      | some k => (match nodeOf d k.2.1 with
        | some n => if n.2.1 = 1 then (k.2.1, true) else (⟨#[]⟩, false)
        | none => (⟨#[]⟩, false))
      | none => (⟨#[]⟩, false)
theorem found_s {α : Type} (no x : α) : found no (some x) = (x, true) := rfl
theorem found_n {α : Type} (no : α) : found no none = (no, false) := rfl
abbrev r_sb17 : Sh := [(false, .str), (false, .bool)]
theorem r_ls_call17 (y : List ByteArray) (K : List ByteArray → Prop) : callK [(false, .li .str)] (some (Sh.enc r_ls y)) K = K y := callK_enc (s := r_ls) rfl y K
def sp_blocks (x : TDesign) : Option T := onlyS x (Sh.enc r_ls (blocksOf x))
abbrev sp_blocks17 := sp_blocks
def sp_parts (x : TDesign × ByteArray) : Option T := onlyS x.1 (Sh.enc r_ls (partsIn x.1 x.2))
abbrev sp_parts17 := sp_parts
def sp_block (x : TDesign × ByteArray) : Option T := onlyS x.1 (Sh.enc r_sb17 (blockOf x.1 x.2))
abbrev sp_block17 := sp_block
set_option maxRecDepth 100000
noncomputable def E_has17 : Env := Env.of []
def H_has17 : FuncId → Hint := fun f => match f == 60 with | true => ⟨fun r => match r == 2 with | true => .inv [.val 5 false (.int .i64)] | false => .none, fun _ _ => none, fun _ => none⟩ | false => noHint
theorem Eok_has17 : EnvOk Tryz.prog E_has17 := EnvOk.nil _
def F_has17 (a0 : List ByteArray) (a1 : ByteArray) (R : T → Prop) : Prop :=
  loopK (Int × PUnit)
  (fun (X0 : Int × PUnit → Prop) (s1 : Int × PUnit) =>
    iteP (decide (s1.fst < (↑(List.map Sy.str.enc a0).length : Int)))
      (rowsK Sy.str (List.map Sy.str.enc a0) s1.fst fun (y2 : ByteArray) =>
        iteP (decide (y2 = a1)) (R (T.v (Value.bool true))) (X0 (IntKind.i64.wrap (s1.fst + 1), ())))
      (R (T.v (Value.bool false))))
  (0, ())
theorem F_has17_eq (a0 : List ByteArray) (a1 : ByteArray) (R : T → Prop) : sxTop stdC2 Tryz.prog E_has17 H_has17 8 60 [encV false Sy.str.li a0, encV false Sy.str a1] R = F_has17 a0 a1 R := by kernel_rfl
abbrev s_has17 : Sh := [(false, Sy.str.li), (false, Sy.str)]
abbrev r_has17 : Sh := [(false, Sy.bool)]
theorem r_has17_call (y : Sh.den r_has17) (K : Sh.den r_has17 → Prop) : callK r_has17 (some (Sh.enc r_has17 y)) K = K y := callK_enc rfl y K

noncomputable def g_has17 : List T → Option (T) := gS s_has17 sp_has17
theorem g_has17_at {a0 : List ByteArray} {a1 : ByteArray} : g_has17 [T.sl false (List.map Sy.str.enc a0), T.v (Value.string a1)] = sp_has17 (a0, a1) := gS_enc (s := s_has17) rfl (a0, a1) rfl
theorem g_has17_op {u0 u1} : g_has17 [T.sl false (List.map Sy.str.enc u0), T.v (Value.string u1)] = sp_has17 (u0, u1) := gS_enc (s := s_has17) rfl (u0, u1) rfl
theorem of_has17 (h : ∀ (a0 : List ByteArray) (a1 : ByteArray) (r : T), sp_has17 (a0, a1) = some r → BdSh s_has17 (a0, a1) → F_has17 a0 a1 (fun y => y = r)) : PureFn Tryz.prog 60 g_has17 :=
  pureFn_S (E := E_has17) (Hs := H_has17) Eok_has17 mixed' plain' (noHeap_of rfl) 8 ⟨_, _, Tryz.func60, rfl⟩ rfl fun x r h1 h2 => by
    obtain ⟨a0, a1⟩ := x
    rw [show Sh.encs s_has17 (a0, a1) = [encV false Sy.str.li a0, encV false Sy.str a1] from rfl, F_has17_eq]
    exact h a0 a1 r h1 h2

theorem any_drop17 {α : Type} {p : α → Bool} {l : List α} {k : Nat} (h : k < l.length) : (l.drop k).any p = (p l[k] || (l.drop (k + 1)).any p) := by rw [List.drop_eq_getElem_cons h, List.any_cons]
theorem fn_has17 : PureFn Tryz.prog 60 g_has17 := of_has17 fun l x r h hb => by
  cases h
  have hl : l.length ≤ 2 ^ 47 := hb.1.1
  unfold F_has17
  refine loopK_ix l.length (fun k s => s = ((k : Int), ()) ∧ hasT l x = (l.drop k).any fun y => decide (y = x)) ⟨rfl, rfl⟩ ?_
  rintro X k s hk ⟨rfl, he⟩ hX
  dsimp only
  by_cases hlt : k < l.length
  · rw [any_drop17 hlt] at he
    refine iteP_yes (by simp [hlt]) ?_
    rw [rowsK_at (r := .str) hlt]
    by_cases h1 : l[k] = x
    · refine iteP_yes h1 ?_
      rw [he, decide_eq_true h1]; rfl
    · refine iteP_no h1 (hX _ hlt ⟨by rw [show IntKind.i64.wrap ((k : Int) + 1) = ((k + 1 : Nat) : Int) from wrap_id _ (by omega) (by omega)], ?_⟩)
      rw [he, decide_eq_false h1, Bool.false_or]
  · have : k = l.length := by omega
    subst this
    refine iteP_no (by simp) ?_
    rw [he, List.drop_length]; rfl
set_option maxRecDepth 100000
noncomputable def E_in17 : Env := Env.of [(34, .pure g_up), (60, .pure g_has17)]
def H_in17 : FuncId → Hint := fun _ => noHint
theorem Eok_in17 : EnvOk Tryz.prog E_in17 := EnvOk.cons (x := .pure g_up) fn_up (EnvOk.cons (x := .pure g_has17) fn_has17 (EnvOk.nil _))
def F_in17 (a0 : TDesign) (a1 : TPart) (a2 : ByteArray) (R : T → Prop) : Prop :=
  callK [(false, Sy.str.li), (false, Sy.bool)]
  (g_up [encV true yDesign a0, T.v (Value.string a1.snd.snd.snd.fst)])
  fun (y0 : List ByteArray × Bool) =>
  callK [(false, Sy.bool)]
    (g_has17 [T.sl false (List.map Sy.str.enc y0.fst), T.v (Value.string a2)])
    fun (y1 : Bool) => R (T.v (Value.bool y1))
theorem F_in17_eq (a0 : TDesign) (a1 : TPart) (a2 : ByteArray) (R : T → Prop) : sxTop stdC2 Tryz.prog E_in17 H_in17 8 35 [encV true yDesign a0, encV true yPart a1, encV false Sy.str a2] R = F_in17 a0 a1 a2 R := by kernel_rfl
abbrev s_in17 : Sh := [(true, yDesign), (true, yPart), (false, Sy.str)]
abbrev r_in17 : Sh := [(false, Sy.bool)]
theorem r_in17_call (y : Sh.den r_in17) (K : Sh.den r_in17 → Prop) : callK r_in17 (some (Sh.enc r_in17 y)) K = K y := callK_enc rfl y K

noncomputable def g_in17 : List T → Option (T) := gS s_in17 sp_in17
theorem g_in17_at {a0 : TDesign} {a1 : TPart} {a2 : ByteArray} : g_in17 [encV true yDesign a0, encV true yPart a1, T.v (Value.string a2)] = sp_in17 (a0, a1, a2) := gS_enc (s := s_in17) rfl (a0, a1, a2) rfl
theorem g_in17_op {u0 u1 u2 u3 u4 u5 u6 u7 u8 u9 u10 u11 u12 u13 u14 u15 u16 u17 u18 u19 u20 u21 u22 u23 u24} : g_in17 [T.agg
    [T.v (Value.string u0), T.sl false (List.map yNode.enc u1),
      T.sl false (List.map yPart.enc u2),
      T.sl false (List.map ySeam.enc u3),
      T.sl false (List.map yPackage.enc u4),
      T.sl false (List.map yNeed.enc u5)],
  T.agg
    [T.v (Value.string u6), T.v (Value.int IntKind.i64 u7),
      T.v (Value.int IntKind.i64 u8), T.v (Value.string u9),
      T.v (Value.string u10),
      T.v (Value.int IntKind.i64 u11),
      T.sl false (List.map yPoint.enc u12),
      T.sl false (List.map yPoint.li.enc u13),
      T.v (Value.string u14),
      T.v (Value.int IntKind.i64 u15),
      T.v (Value.int IntKind.i64 u16),
      T.v (Value.int IntKind.i64 u17),
      T.v (Value.int IntKind.i64 u18),
      T.v (Value.int IntKind.i64 u19),
      T.v (Value.int IntKind.i64 u20),
      T.v (Value.int IntKind.i64 u21),
      T.v (Value.int IntKind.i64 u22),
      T.v (Value.int IntKind.i64 u23)],
  T.v (Value.string u24)] = sp_in17 ((u0, (u1, (u2, (u3, (u4, u5))))), (u6, (u7, (u8, (u9, (u10, (u11, ((u12, u13), (u14, (u15, (u16, ((u17, (u18, u19)), ((u20, (u21, u22)), u23)))))))))))), u24) := gS_enc (s := s_in17) rfl ((u0, (u1, (u2, (u3, (u4, u5))))), (u6, (u7, (u8, (u9, (u10, (u11, ((u12, u13), (u14, (u15, (u16, ((u17, (u18, u19)), ((u20, (u21, u22)), u23)))))))))))), u24) rfl
theorem of_in17 (h : ∀ (a0 : TDesign) (a1 : TPart) (a2 : ByteArray) (r : T), sp_in17 (a0, a1, a2) = some r → BdSh s_in17 (a0, a1, a2) → F_in17 a0 a1 a2 (fun y => y = r)) : PureFn Tryz.prog 35 g_in17 :=
  pureFn_S (E := E_in17) (Hs := H_in17) Eok_in17 mixed' plain' (noHeap_of rfl) 8 ⟨_, _, Tryz.func35, rfl⟩ rfl fun x r h1 h2 => by
    obtain ⟨a0, a1, a2⟩ := x
    rw [show Sh.encs s_in17 (a0, a1, a2) = [encV true yDesign a0, encV true yPart a1, encV false Sy.str a2] from rfl, F_in17_eq]
    exact h a0 a1 a2 r h1 h2

theorem fn_in17 : PureFn Tryz.prog 35 g_in17 := of_in17 fun d p n r h hb => by
  cases h
  unfold F_in17
  have u := @g_has17_at
  simp only [g_up_at, sp_up, r_up_call, u, sp_has17, r_b_call]
  rfl
theorem filt_yes {α : Type} {c : α → Bool} {f : α → ByteArray} {l : List α} {k : Nat} (hk : k < l.length) (hc : c l[k] = true) : ((l.take (k + 1)).filter c).map f = ((l.take k).filter c).map f ++ [f l[k]] := by
  rw [List.take_succ_eq_append_getElem hk, List.filter_append]; simp [hc]
theorem filt_no {α : Type} {c : α → Bool} {f : α → ByteArray} {l : List α} {k : Nat} (hk : k < l.length) (hc : c l[k] = false) : ((l.take (k + 1)).filter c).map f = ((l.take k).filter c).map f := by
  rw [List.take_succ_eq_append_getElem hk, List.filter_append]; simp [hc]
theorem filt_len {α : Type} {c : α → Bool} {f : α → ByteArray} {l : List α} {k : Nat} : (((l.take k).filter c).map f).length ≤ k := by
  have := List.length_filter_le c (l.take k); simp at this ⊢; omega
set_option maxRecDepth 100000
noncomputable def E_blocks : Env := Env.of []
def H_blocks : FuncId → Hint := fun f => match f == 16 with | true => ⟨fun r => match r == 2 with | true => .inv [.own 2 1 .str, .val 8 false (.int .i64)] | false => .none, fun _ _ => none, fun _ => none⟩ | false => noHint
theorem Eok_blocks : EnvOk Tryz.prog E_blocks := EnvOk.nil _
def F_blocks (a0 : TDesign) (R : T → Prop) : Prop :=
  loopK (List ByteArray × Int × PUnit)
  (fun (X0 : List ByteArray × Int × PUnit → Prop) (s1 : List ByteArray × Int × PUnit) =>
    iteP (decide (s1.snd.fst < (↑(List.map yNode.enc a0.snd.fst).length : Int)))
      (rowsK yNode (List.map yNode.enc a0.snd.fst) s1.snd.fst fun (y2 : TNode) =>
        iteP (decide (y2.snd.fst = 1))
          (reqK
            (decide (((List.map Sy.str.enc s1.fst).length + 1) * 16 ≤ 140737488355328) &&
              decide ((List.map Sy.str.enc s1.fst).length + 1 ≤ 140737488355328))
            (decK Sy.str (List.map Sy.str.enc s1.fst ++ [[T.v (Value.string y2.fst)]])
              fun (y3 : List ByteArray) => X0 (y3, IntKind.i64.wrap (s1.snd.fst + 1), ())))
          (decK Sy.str (List.map Sy.str.enc s1.fst) fun (y4 : List ByteArray) =>
            X0 (y4, IntKind.i64.wrap (s1.snd.fst + 1), ())))
      (R (T.sl false (List.map Sy.str.enc s1.fst))))
  ([], 0, ())
theorem F_blocks_eq (a0 : TDesign) (R : T → Prop) : sxTop stdC2 Tryz.prog E_blocks H_blocks 8 16 [encV true yDesign a0] R = F_blocks a0 R := by kernel_rfl
abbrev s_blocks : Sh := [(true, yDesign)]
abbrev r_blocks : Sh := [(false, Sy.str.li)]
theorem r_blocks_call (y : Sh.den r_blocks) (K : Sh.den r_blocks → Prop) : callK r_blocks (some (Sh.enc r_blocks y)) K = K y := callK_enc rfl y K

noncomputable def g_blocks : List T → Option (T) := gS s_blocks sp_blocks
theorem g_blocks_at {a0 : TDesign} : g_blocks [encV true yDesign a0] = sp_blocks (a0) := gS_enc (s := s_blocks) rfl (a0) rfl
theorem g_blocks_op {u0 u1 u2 u3 u4 u5} : g_blocks [T.agg
    [T.v (Value.string u0), T.sl false (List.map yNode.enc u1),
      T.sl false (List.map yPart.enc u2),
      T.sl false (List.map ySeam.enc u3),
      T.sl false (List.map yPackage.enc u4),
      T.sl false (List.map yNeed.enc u5)]] = sp_blocks ((u0, (u1, (u2, (u3, (u4, u5)))))) := gS_enc (s := s_blocks) rfl ((u0, (u1, (u2, (u3, (u4, u5)))))) rfl
theorem of_blocks (h : ∀ (a0 : TDesign) (r : T), sp_blocks (a0) = some r → BdSh s_blocks (a0) → F_blocks a0 (fun y => y = r)) : PureFn Tryz.prog 16 g_blocks :=
  pureFn_S (E := E_blocks) (Hs := H_blocks) Eok_blocks mixed' plain' (noHeap_of rfl) 8 ⟨_, _, Tryz.func16, rfl⟩ rfl fun x r h1 h2 => by
    let a0 := x
    rw [show Sh.encs s_blocks (a0) = [encV true yDesign a0] from rfl, F_blocks_eq]
    exact h a0 r h1 h2

theorem fn_blocks : PureFn Tryz.prog 16 g_blocks := of_blocks fun d r h hb => by
  obtain ⟨_, _, ⟨hl, _⟩, rfl⟩ := onlyS_of h
  replace hl : d.2.1.length ≤ 1000000 := hl
  clear h
  unfold F_blocks
  refine loopK_ix d.2.1.length (fun k s => s = (((d.2.1.take k).filter fun n => decide (n.2.1 = 1)).map (fun n => n.1), (k : Int), ())) rfl ?_
  rintro X k s hk rfl hX
  have hlen := filt_len (c := fun (n : TNode) => decide (n.2.1 = 1)) (f := fun n => n.1) (l := d.2.1) (k := k)
  dsimp only
  by_cases hlt : k < d.2.1.length
  · have hw : IntKind.i64.wrap ((k : Int) + 1) = ((k + 1 : Nat) : Int) := wrap_id _ (by omega) (by omega)
    refine iteP_yes (by simp [hlt]) ?_
    rw [rowsK_at (r := yNode) hlt]
    by_cases h1 : d.2.1[k].2.1 = 1
    · refine iteP_yes h1 ?_
      try rw [rowsK_at (r := yNode) hlt]
      rw [app_ok (by omega), dec_snoc]
      exact hX _ hlt (by rw [filt_yes hlt (by simp [h1]), hw])
    · refine iteP_no h1 ?_
      rw [decK_map (r := .str) rfl]
      exact hX _ hlt (by rw [filt_no hlt (by simp [h1]), hw])
  · have : k = d.2.1.length := by omega
    subst this
    refine iteP_no (by simp) ?_
    rw [List.take_length]; rfl
set_option maxRecDepth 100000
noncomputable def E_blocks17 : Env := Env.of []
def H_blocks17 : FuncId → Hint := fun f => match f == 17 with | true => ⟨fun r => match r == 3 with | true => .inv [.own 3 1 .str, .val 4 false (.int .i64)] | false => .none, fun _ _ => none, fun _ => none⟩ | false => noHint
theorem Eok_blocks17 : EnvOk Tryz.prog E_blocks17 := EnvOk.nil _
def F_blocks17 (a0 : TDesign) (R : T → Prop) : Prop :=
  loopK (List ByteArray × Int × PUnit)
  (fun (X0 : List ByteArray × Int × PUnit → Prop) (s1 : List ByteArray × Int × PUnit) =>
    iteP (decide (s1.snd.fst < (↑(List.map yNode.enc a0.snd.fst).length : Int)))
      (rowsK yNode (List.map yNode.enc a0.snd.fst) s1.snd.fst fun (y2 : TNode) =>
        iteP (decide (y2.snd.fst = 1))
          (rowsK yNode (List.map yNode.enc a0.snd.fst) s1.snd.fst fun (y3 : TNode) =>
            reqK
              (decide (((List.map Sy.str.enc s1.fst).length + 1) * 16 ≤ 140737488355328) &&
                decide ((List.map Sy.str.enc s1.fst).length + 1 ≤ 140737488355328))
              (decK Sy.str (List.map Sy.str.enc s1.fst ++ [[T.v (Value.string y3.fst)]])
                fun (y4 : List ByteArray) => X0 (y4, IntKind.i64.wrap (s1.snd.fst + 1), ())))
          (decK Sy.str (List.map Sy.str.enc s1.fst) fun (y5 : List ByteArray) =>
            X0 (y5, IntKind.i64.wrap (s1.snd.fst + 1), ())))
      (R (T.sl false (List.map Sy.str.enc s1.fst))))
  ([], 0, ())
theorem F_blocks17_eq (a0 : TDesign) (R : T → Prop) : sxTop stdC2 Tryz.prog E_blocks17 H_blocks17 8 17 [encV true yDesign a0] R = F_blocks17 a0 R := by kernel_rfl
abbrev s_blocks17 : Sh := [(true, yDesign)]
abbrev r_blocks17 : Sh := [(false, Sy.str.li)]
theorem r_blocks17_call (y : Sh.den r_blocks17) (K : Sh.den r_blocks17 → Prop) : callK r_blocks17 (some (Sh.enc r_blocks17 y)) K = K y := callK_enc rfl y K

noncomputable def g_blocks17 : List T → Option (T) := gS s_blocks17 sp_blocks17
theorem g_blocks17_at {a0 : TDesign} : g_blocks17 [encV true yDesign a0] = sp_blocks17 (a0) := gS_enc (s := s_blocks17) rfl (a0) rfl
theorem g_blocks17_op {u0 u1 u2 u3 u4 u5} : g_blocks17 [T.agg
    [T.v (Value.string u0), T.sl false (List.map yNode.enc u1),
      T.sl false (List.map yPart.enc u2),
      T.sl false (List.map ySeam.enc u3),
      T.sl false (List.map yPackage.enc u4),
      T.sl false (List.map yNeed.enc u5)]] = sp_blocks17 ((u0, (u1, (u2, (u3, (u4, u5)))))) := gS_enc (s := s_blocks17) rfl ((u0, (u1, (u2, (u3, (u4, u5)))))) rfl
theorem of_blocks17 (h : ∀ (a0 : TDesign) (r : T), sp_blocks17 (a0) = some r → BdSh s_blocks17 (a0) → F_blocks17 a0 (fun y => y = r)) : PureFn Tryz.prog 17 g_blocks17 :=
  pureFn_S (E := E_blocks17) (Hs := H_blocks17) Eok_blocks17 mixed' plain' (noHeap_of rfl) 8 ⟨_, _, Tryz.func17, rfl⟩ rfl fun x r h1 h2 => by
    let a0 := x
    rw [show Sh.encs s_blocks17 (a0) = [encV true yDesign a0] from rfl, F_blocks17_eq]
    exact h a0 r h1 h2

theorem fn_blocks17 : PureFn Tryz.prog 17 g_blocks17 := of_blocks17 fun d r h hb => by
  obtain ⟨_, _, ⟨hl, _⟩, rfl⟩ := onlyS_of h
  replace hl : d.2.1.length ≤ 1000000 := hl
  clear h
  unfold F_blocks17
  refine loopK_ix d.2.1.length (fun k s => s = (((d.2.1.take k).filter fun n => decide (n.2.1 = 1)).map (fun n => n.1), (k : Int), ())) rfl ?_
  rintro X k s hk rfl hX
  have hlen := filt_len (c := fun (n : TNode) => decide (n.2.1 = 1)) (f := fun n => n.1) (l := d.2.1) (k := k)
  dsimp only
  by_cases hlt : k < d.2.1.length
  · have hw : IntKind.i64.wrap ((k : Int) + 1) = ((k + 1 : Nat) : Int) := wrap_id _ (by omega) (by omega)
    refine iteP_yes (by simp [hlt]) ?_
    rw [rowsK_at (r := yNode) hlt]
    by_cases h1 : d.2.1[k].2.1 = 1
    · refine iteP_yes h1 ?_
      try rw [rowsK_at (r := yNode) hlt]
      rw [app_ok (by omega), dec_snoc]
      exact hX _ hlt (by rw [filt_yes hlt (by simp [h1]), hw])
    · refine iteP_no h1 ?_
      rw [decK_map (r := .str) rfl]
      exact hX _ hlt (by rw [filt_no hlt (by simp [h1]), hw])
  · have : k = d.2.1.length := by omega
    subst this
    refine iteP_no (by simp) ?_
    rw [List.take_length]; rfl
set_option maxRecDepth 100000
noncomputable def E_parts17 : Env := Env.of [(35, .pure g_in17)]
def H_parts17 : FuncId → Hint := fun f => match f == 15 with | true => ⟨fun r => match r == 3 with | true => .inv [.own 5 1 .str, .val 6 false (.int .i64)] | false => .none, fun _ _ => none, fun _ => none⟩ | false => noHint
theorem Eok_parts17 : EnvOk Tryz.prog E_parts17 := EnvOk.cons (x := .pure g_in17) fn_in17 (EnvOk.nil _)
def F_parts17 (a0 : TDesign) (a1 : ByteArray) (R : T → Prop) : Prop :=
  loopK (List ByteArray × Int × PUnit)
  (fun (X0 : List ByteArray × Int × PUnit → Prop) (s1 : List ByteArray × Int × PUnit) =>
    iteP (decide (s1.snd.fst < (↑(List.map yPart.enc a0.snd.snd.fst).length : Int)))
      (rowsK yPart (List.map yPart.enc a0.snd.snd.fst) s1.snd.fst fun (y2 : TPart) =>
        callK [(false, Sy.bool)]
          (g_in17
            [encV true yDesign a0, encV true yPart y2, T.v (Value.string a1)])
          fun (y3 : Bool) =>
          iteP y3
            (rowsK yPart (List.map yPart.enc a0.snd.snd.fst) s1.snd.fst fun (y4 : TPart) =>
              reqK
                (decide (((List.map Sy.str.enc s1.fst).length + 1) * 16 ≤ 140737488355328) &&
                  decide ((List.map Sy.str.enc s1.fst).length + 1 ≤ 140737488355328))
                (decK Sy.str (List.map Sy.str.enc s1.fst ++ [[T.v (Value.string y4.fst)]])
                  fun (y5 : List ByteArray) => X0 (y5, IntKind.i64.wrap (s1.snd.fst + 1), ())))
            (decK Sy.str (List.map Sy.str.enc s1.fst) fun (y6 : List ByteArray) =>
              X0 (y6, IntKind.i64.wrap (s1.snd.fst + 1), ())))
      (R (T.sl false (List.map Sy.str.enc s1.fst))))
  ([], 0, ())
theorem F_parts17_eq (a0 : TDesign) (a1 : ByteArray) (R : T → Prop) : sxTop stdC2 Tryz.prog E_parts17 H_parts17 8 15 [encV true yDesign a0, encV false Sy.str a1] R = F_parts17 a0 a1 R := by kernel_rfl
abbrev s_parts17 : Sh := [(true, yDesign), (false, Sy.str)]
abbrev r_parts17 : Sh := [(false, Sy.str.li)]
theorem r_parts17_call (y : Sh.den r_parts17) (K : Sh.den r_parts17 → Prop) : callK r_parts17 (some (Sh.enc r_parts17 y)) K = K y := callK_enc rfl y K

noncomputable def g_parts17 : List T → Option (T) := gS s_parts17 sp_parts17
theorem g_parts17_at {a0 : TDesign} {a1 : ByteArray} : g_parts17 [encV true yDesign a0, T.v (Value.string a1)] = sp_parts17 (a0, a1) := gS_enc (s := s_parts17) rfl (a0, a1) rfl
theorem g_parts17_op {u0 u1 u2 u3 u4 u5 u6} : g_parts17 [T.agg
    [T.v (Value.string u0), T.sl false (List.map yNode.enc u1),
      T.sl false (List.map yPart.enc u2),
      T.sl false (List.map ySeam.enc u3),
      T.sl false (List.map yPackage.enc u4),
      T.sl false (List.map yNeed.enc u5)],
  T.v (Value.string u6)] = sp_parts17 ((u0, (u1, (u2, (u3, (u4, u5))))), u6) := gS_enc (s := s_parts17) rfl ((u0, (u1, (u2, (u3, (u4, u5))))), u6) rfl
theorem of_parts17 (h : ∀ (a0 : TDesign) (a1 : ByteArray) (r : T), sp_parts17 (a0, a1) = some r → BdSh s_parts17 (a0, a1) → F_parts17 a0 a1 (fun y => y = r)) : PureFn Tryz.prog 15 g_parts17 :=
  pureFn_S (E := E_parts17) (Hs := H_parts17) Eok_parts17 mixed' plain' (noHeap_of rfl) 8 ⟨_, _, Tryz.func15, rfl⟩ rfl fun x r h1 h2 => by
    obtain ⟨a0, a1⟩ := x
    rw [show Sh.encs s_parts17 (a0, a1) = [encV true yDesign a0, encV false Sy.str a1] from rfl, F_parts17_eq]
    exact h a0 a1 r h1 h2

theorem fn_parts17 : PureFn Tryz.prog 15 g_parts17 := of_parts17 fun d node r h hb => by
  obtain ⟨_, _, ⟨_, hl⟩, rfl⟩ := onlyS_of h
  replace hl : d.2.2.1.length ≤ 1000000 := hl
  clear h
  unfold F_parts17
  refine loopK_ix d.2.2.1.length (fun k s => s = (((d.2.2.1.take k).filter (inN d node)).map (fun n => n.1), (k : Int), ())) rfl ?_
  rintro X k s hk rfl hX
  have hlen := filt_len (c := inN d node) (f := fun n => n.1) (l := d.2.2.1) (k := k)
  dsimp only
  by_cases hlt : k < d.2.2.1.length
  · have hw : IntKind.i64.wrap ((k : Int) + 1) = ((k + 1 : Nat) : Int) := wrap_id _ (by omega) (by omega)
    refine iteP_yes (by simp [hlt]) ?_
    rw [rowsK_at (r := yPart) hlt]
    refine callK_some (s := r_b) (y := inN d node d.2.2.1[k]) g_in17_at ?_
    refine iteP_b (fun h1 => ?_) (fun h1 => ?_)
    · rw [rowsK_at (r := yPart) hlt, app_ok (by omega), dec_snoc]
      exact hX _ hlt (by rw [filt_yes hlt h1, hw])
    · rw [decK_map (r := .str) rfl]
      exact hX _ hlt (by rw [filt_no hlt h1, hw])
  · have : k = d.2.2.1.length := by omega
    subst this
    refine iteP_no (by simp) ?_
    rw [List.take_length]; rfl
/-- The way up from a node, as the program walks it. -/
theorem climb_loop {d : TDesign} (id0 : ByteArray) {N : Prop} {Fd : ByteArray → List ByteArray → Prop} (hN : up d id0 = ([], false) → N) (hF : ∀ id' l', l'.length < 65 → up d id0 = (l' ++ [id'], true) → Fd id' l') :
    loopK (ByteArray × List ByteArray × Int × PUnit) (fun (X : ByteArray × List ByteArray × Int × PUnit → Prop) (s : ByteArray × List ByteArray × Int × PUnit) =>
      iteP (decide (s.snd.snd.fst < 65))
        (callK [(true, yNode), (false, Sy.bool)] (g_node [encV true yDesign d, T.v (Value.string s.fst)]) fun (y : TNode × Bool) =>
          iteP (!y.snd) N (reqK (decide (((List.map Sy.str.enc s.snd.fst).length + 1) * 16 ≤ 140737488355328) && decide ((List.map Sy.str.enc s.snd.fst).length + 1 ≤ 140737488355328))
            (iteP (decide (y.fst.snd.fst = 1)) (Fd s.fst s.snd.fst) (decK Sy.str (List.map Sy.str.enc s.snd.fst ++ [[T.v (Value.string s.fst)]]) fun (y7 : List ByteArray) => X (y.fst.snd.snd, y7, IntKind.i64.wrap (s.snd.snd.fst + 1), ())))))
        N) (id0, [], 0, ()) := by
  refine loopK_ix 65 (fun k s => ∃ id' l', s = (id', l', (k : Int), ()) ∧ l'.length = k ∧ upF d (65 - k) id' l' = up d id0) ⟨id0, [], rfl, rfl, rfl⟩ ?_
  rintro X k s hk ⟨id', l', rfl, hl, hu⟩ hX
  dsimp only
  by_cases hlt : k < 65
  · have h1 : (k : Int) < 65 := by omega
    obtain ⟨m, hm⟩ : ∃ m, 65 - k = m + 1 := ⟨64 - k, by omega⟩
    rw [hm] at hu
    simp only [upF] at hu
    refine iteP_yes h1 ?_
    refine callK_some (s := [(true, yNode), (false, .bool)]) (y := found noNode (nodeOf d id')) g_node_at ?_
    cases hn : nodeOf d id' with
    | none => simp only [hn] at hu; simp only [found, Bool.not_false, iteP_t]; exact hN hu.symm
    | some x =>
      simp only [hn] at hu
      simp only [found, Bool.not_true, iteP_f]
      rw [app_ok (by omega), dec_snoc]
      by_cases hx : x.2.1 = 1
      · rw [if_pos hx] at hu
        exact iteP_yes hx (hF _ _ (by omega) hu.symm)
      · rw [if_neg hx] at hu
        refine iteP_no hx (hX _ hlt ⟨x.2.2, l' ++ [id'], ?_, by simp [hl], by rw [← hu]; congr 1; omega⟩)
        simp only [Prod.mk.injEq, and_true, true_and]
        exact wrap_id _ (by omega) (by omega)
  · have h1 : ¬ (k : Int) < 65 := by omega
    have : 65 - k = 0 := by omega
    rw [this] at hu
    exact iteP_no h1 (hN hu.symm)
theorem up_ok {d : TDesign} {id : ByteArray} (h : (up d id).2 = true) : (up d id).1 ≠ [] := by
  have key : ∀ n id l, (upF d n id l).2 = true → (upF d n id l).1 ≠ [] := by
    intro n
    induction n with
    | zero => intro id l h; simp [upF] at h
    | succ n ih =>
      intro id l h
      simp only [upF] at h ⊢
      cases hn : nodeOf d id with
      | none => simp [hn] at h
      | some x =>
        simp only [hn] at h ⊢
        by_cases hx : x.2.1 = 1
        · simp [hx]
        · simp only [hx, if_false] at h ⊢; exact ih _ _ h
  exact key _ _ _ h
theorem lastB_at {l : List ByteArray} (hl : l.length ≤ 65) (h0 : l ≠ []) (K : ByteArray → Prop) : rowsK Sy.str (List.map Sy.str.enc l) (IntKind.i64.wrap (((List.map Sy.str.enc l).length : Int) - 1)) K = K (lastB l) := by
  have hpos : 0 < l.length := List.length_pos_iff.2 h0
  have e : IntKind.i64.wrap (((List.map Sy.str.enc l).length : Int) - 1) = ((l.length - 1 : Nat) : Int) := by
    rw [List.length_map, wrap_id _ (by omega) (by omega)]; omega
  rw [e, rowsK_at (r := .str) (by omega)]
  have : lastB l = l[l.length - 1]'(by omega) := by
    unfold lastB
    rw [List.getLastD_eq_getLast?, List.getLast?_eq_getElem?, List.getElem?_eq_getElem (by omega)]
    rfl
  rw [← this]
set_option maxRecDepth 100000
noncomputable def E_block17 : Env := Env.of [(22, .pure g_node17), (26, .pure g_part17), (28, .pure g_pack17), (34, .pure g_up)]
def H_block17 : FuncId → Hint := fun _ => noHint
theorem Eok_block17 : EnvOk Tryz.prog E_block17 := EnvOk.cons (x := .pure g_node17) fn_node17 (EnvOk.cons (x := .pure g_part17) fn_part17 (EnvOk.cons (x := .pure g_pack17) fn_pack17 (EnvOk.cons (x := .pure g_up) fn_up (EnvOk.nil _))))
def F_block17 (a0 : TDesign) (a1 : ByteArray) (R : T → Prop) : Prop :=
  callK [(true, yNode), (false, Sy.bool)]
  (g_node17 [encV true yDesign a0, T.v (Value.string a1)]) fun (y0 : TNode × Bool) =>
  iteP (!y0.snd)
    (callK [(true, yPart), (false, Sy.bool)]
      (g_part17 [encV true yDesign a0, T.v (Value.string a1)])
      fun (y1 : TPart × Bool) =>
      iteP y1.snd
        (callK [(false, Sy.str.li), (false, Sy.bool)]
          (g_up [encV true yDesign a0, T.v (Value.string y1.fst.snd.snd.snd.fst)])
          fun (y2 : List ByteArray × Bool) =>
          iteP (!y2.snd)
            (R (T.tup [T.v (Value.string { data := #[] }), T.v (Value.bool false)]))
            (rowsK Sy.str (List.map Sy.str.enc y2.fst)
              (IntKind.i64.wrap ((↑(List.map Sy.str.enc y2.fst).length : Int) - 1)) fun (y3 : ByteArray) =>
              R (T.tup [T.v (Value.string y3), T.v (Value.bool true)])))
        (callK [(true, yPackage), (false, Sy.bool)]
          (g_pack17 [encV true yDesign a0, T.v (Value.string a1)])
          fun (y4 : TPackage × Bool) =>
          iteP y4.snd
            (callK [(true, yNode), (false, Sy.bool)]
              (g_node17 [encV true yDesign a0, T.v (Value.string y4.fst.snd.fst)])
              fun (y5 : TNode × Bool) =>
              iteP (!y5.snd)
                (R (T.tup [T.v (Value.string { data := #[] }), T.v (Value.bool false)]))
                (iteP (!decide (y5.fst.snd.fst = 1))
                  (R (T.tup [T.v (Value.string { data := #[] }), T.v (Value.bool false)]))
                  (R (T.tup [T.v (Value.string y4.fst.snd.fst), T.v (Value.bool true)]))))
            (R (T.tup [T.v (Value.string { data := #[] }), T.v (Value.bool false)]))))
    (callK [(false, Sy.str.li), (false, Sy.bool)]
      (g_up [encV true yDesign a0, T.v (Value.string a1)])
      fun (y6 : List ByteArray × Bool) =>
      iteP (!y6.snd)
        (R (T.tup [T.v (Value.string { data := #[] }), T.v (Value.bool false)]))
        (rowsK Sy.str (List.map Sy.str.enc y6.fst)
          (IntKind.i64.wrap ((↑(List.map Sy.str.enc y6.fst).length : Int) - 1)) fun (y7 : ByteArray) =>
          R (T.tup [T.v (Value.string y7), T.v (Value.bool true)])))
theorem F_block17_eq (a0 : TDesign) (a1 : ByteArray) (R : T → Prop) : sxTop stdC2 Tryz.prog E_block17 H_block17 8 10 [encV true yDesign a0, encV false Sy.str a1] R = F_block17 a0 a1 R := by kernel_rfl
abbrev s_block17 : Sh := [(true, yDesign), (false, Sy.str)]
abbrev r_block17 : Sh := [(false, Sy.str), (false, Sy.bool)]
theorem r_block17_call (y : Sh.den r_block17) (K : Sh.den r_block17 → Prop) : callK r_block17 (some (Sh.enc r_block17 y)) K = K y := callK_enc rfl y K

noncomputable def g_block17 : List T → Option (T) := gS s_block17 sp_block17
theorem g_block17_at {a0 : TDesign} {a1 : ByteArray} : g_block17 [encV true yDesign a0, T.v (Value.string a1)] = sp_block17 (a0, a1) := gS_enc (s := s_block17) rfl (a0, a1) rfl
theorem g_block17_op {u0 u1 u2 u3 u4 u5 u6} : g_block17 [T.agg
    [T.v (Value.string u0), T.sl false (List.map yNode.enc u1),
      T.sl false (List.map yPart.enc u2),
      T.sl false (List.map ySeam.enc u3),
      T.sl false (List.map yPackage.enc u4),
      T.sl false (List.map yNeed.enc u5)],
  T.v (Value.string u6)] = sp_block17 ((u0, (u1, (u2, (u3, (u4, u5))))), u6) := gS_enc (s := s_block17) rfl ((u0, (u1, (u2, (u3, (u4, u5))))), u6) rfl
theorem of_block17 (h : ∀ (a0 : TDesign) (a1 : ByteArray) (r : T), sp_block17 (a0, a1) = some r → BdSh s_block17 (a0, a1) → F_block17 a0 a1 (fun y => y = r)) : PureFn Tryz.prog 10 g_block17 :=
  pureFn_S (E := E_block17) (Hs := H_block17) Eok_block17 mixed' plain' (noHeap_of rfl) 8 ⟨_, _, Tryz.func10, rfl⟩ rfl fun x r h1 h2 => by
    obtain ⟨a0, a1⟩ := x
    rw [show Sh.encs s_block17 (a0, a1) = [encV true yDesign a0, encV false Sy.str a1] from rfl, F_block17_eq]
    exact h a0 a1 r h1 h2

theorem fn_block17 : PureFn Tryz.prog 10 g_block17 := of_block17 fun d id r h hb => by
  obtain ⟨hok, hok2, _, rfl⟩ := onlyS_of h
  clear h
  have top : ∀ at0, blockOf d id = topOf d at0 → iteP (!(up d at0).2) (T.tup [T.v (Value.string { data := #[] }), T.v (Value.bool false)] = Sh.enc r_sb17 (blockOf d id)) (rowsK Sy.str (List.map Sy.str.enc (up d at0).1) (IntKind.i64.wrap (((List.map Sy.str.enc (up d at0).1).length : Int) - 1)) fun (y3 : ByteArray) => T.tup [T.v (Value.string y3), T.v (Value.bool true)] = Sh.enc r_sb17 (blockOf d id)) := by
    intro at0 he
    rw [he]
    unfold topOf
    refine iteP_nb (fun h => ?_) (fun h => ?_)
    · rw [h]; rfl
    · rw [lastB_at (up_len d at0) (up_ok h), if_pos h]; rfl
  unfold F_block17
  simp only [g_node17_at, sp_node17, sp_node, r_node17_call, g_part17_at, sp_part17, sp_part, r_part17_call, g_up_at, sp_up, r_up_call]
  cases hn : nodeOf d id with
  | some x => simp only [found_s, found_n, Bool.not_true, iteP_f]; exact top id (by simp [blockOf, hn])
  | none =>
    simp only [found_s, found_n, Bool.not_false, iteP_t]
    cases hp : partOf d id with
    | some p => simp only [found_s, iteP_t]; exact top (pNode p) (by simp [blockOf, hn, hp])
    | none =>
      simp only [found_n, iteP_f]
      refine callK_some (s := [(true, yPackage), (false, .bool)]) (y := found noPack (packOf d id)) g_pack17_at ?_
      cases hk : packOf d id with
      | none => simp only [found_s, found_n, iteP_f]; simp [blockOf, hn, hp, hk, Sh.enc, Sh.encs, encV, Sy.enc, hdT]
      | some k =>
        simp only [found_s, found_n, iteP_t]
        rcases Option.eq_none_or_eq_some (nodeOf d k.2.1) with hm | ⟨m, hm⟩
        · simp only [hm, found_s, found_n, Bool.not_false, iteP_t]; simp [blockOf, hn, hp, hk, hm, Sh.enc, Sh.encs, encV, Sy.enc, hdT]
        · simp only [hm, found_s, found_n, Bool.not_true, iteP_f]
          by_cases hx : m.2.1 = 1
          · refine iteP_nyes hx ?_
            simp [blockOf, hn, hp, hk, hm, hx, Sh.enc, Sh.encs, encV, Sy.enc, hdT]
          · refine iteP_nno hx ?_
            simp [blockOf, hn, hp, hk, hm, hx, Sh.enc, Sh.encs, encV, Sy.enc, hdT]
set_option maxRecDepth 100000
noncomputable def E_block : Env := Env.of [(21, .pure g_node), (25, .pure g_partD), (27, .pure g_pack)]
def H_block : FuncId → Hint := fun f => match f == 32 with | true => ⟨fun r => match r == 3 with | true => .inv [.val 1 false .str, .own 6 1 .str, .val 9 false (.int .i64)] | false => .none, fun _ _ => none, fun _ => none⟩ | false => noHint
theorem Eok_block : EnvOk Tryz.prog E_block := EnvOk.cons (x := .pure g_node) fn_node (EnvOk.cons (x := .pure g_partD) fn_partD (EnvOk.cons (x := .pure g_pack) fn_pack (EnvOk.nil _)))
def F_block (a0 : TDesign) (a1 : ByteArray) (R : T → Prop) : Prop :=
  callK [(true, yNode), (false, Sy.bool)]
  (g_node [encV true yDesign a0, T.v (Value.string a1)]) fun (y0 : TNode × Bool) =>
  iteP (!y0.snd)
    (callK [(true, yPart), (false, Sy.bool)]
      (g_partD [encV true yDesign a0, T.v (Value.string a1)])
      fun (y1 : TPart × Bool) =>
      iteP y1.snd
        (loopK (ByteArray × List ByteArray × Int × PUnit)
          (fun (X2 : ByteArray × List ByteArray × Int × PUnit → Prop) (s3 : ByteArray × List ByteArray × Int × PUnit) =>
            iteP (decide (s3.snd.snd.fst < 65))
              (callK [(true, yNode), (false, Sy.bool)]
                (g_node [encV true yDesign a0, T.v (Value.string s3.fst)])
                fun (y4 : TNode × Bool) =>
                iteP (!y4.snd)
                  (R (T.tup [T.v (Value.string { data := #[] }), T.v (Value.bool false)]))
                  (reqK
                    (decide (((List.map Sy.str.enc s3.snd.fst).length + 1) * 16 ≤ 140737488355328) &&
                      decide ((List.map Sy.str.enc s3.snd.fst).length + 1 ≤ 140737488355328))
                    (iteP (decide (y4.fst.snd.fst = 1))
                      (rowsK Sy.str
                        (List.map Sy.str.enc s3.snd.fst ++ [[T.v (Value.string s3.fst)]])
                        (IntKind.i64.wrap
                          ((↑(List.map Sy.str.enc s3.snd.fst ++ [[T.v (Value.string s3.fst)]]).length :
                              Int) -
                            1))
                        fun (y5 : ByteArray) =>
                        partK Sy.str
                          (List.map Sy.str.enc s3.snd.fst ++ [[T.v (Value.string s3.fst)]])
                          (IntKind.i64.wrap
                              ((↑(List.map Sy.str.enc s3.snd.fst ++
                                        [[T.v (Value.string s3.fst)]]).length :
                                  Int) -
                                1)).toNat
                          0 fun (y6 : ByteArray) =>
                          R (T.tup [T.v (Value.string y6), T.v (Value.bool true)]))
                      (decK Sy.str
                        (List.map Sy.str.enc s3.snd.fst ++ [[T.v (Value.string s3.fst)]])
                        fun (y7 : List ByteArray) =>
                        X2 (y4.fst.snd.snd, y7, IntKind.i64.wrap (s3.snd.snd.fst + 1), ())))))
              (R (T.tup [T.v (Value.string { data := #[] }), T.v (Value.bool false)])))
          (y1.fst.snd.snd.snd.fst, [], 0, ()))
        (callK [(true, yPackage), (false, Sy.bool)]
          (g_pack [encV true yDesign a0, T.v (Value.string a1)])
          fun (y8 : TPackage × Bool) =>
          iteP y8.snd
            (callK [(true, yNode), (false, Sy.bool)]
              (g_node [encV true yDesign a0, T.v (Value.string y8.fst.snd.fst)])
              fun (y9 : TNode × Bool) =>
              iteP (!y9.snd)
                (R (T.tup [T.v (Value.string { data := #[] }), T.v (Value.bool false)]))
                (iteP (!decide (y9.fst.snd.fst = 1))
                  (R (T.tup [T.v (Value.string { data := #[] }), T.v (Value.bool false)]))
                  (R (T.tup [T.v (Value.string y8.fst.snd.fst), T.v (Value.bool true)]))))
            (R (T.tup [T.v (Value.string { data := #[] }), T.v (Value.bool false)]))))
    (loopK (ByteArray × List ByteArray × Int × PUnit)
      (fun (X10 : ByteArray × List ByteArray × Int × PUnit → Prop) (s11 : ByteArray × List ByteArray × Int × PUnit) =>
        iteP (decide (s11.snd.snd.fst < 65))
          (callK [(true, yNode), (false, Sy.bool)]
            (g_node [encV true yDesign a0, T.v (Value.string s11.fst)])
            fun (y12 : TNode × Bool) =>
            iteP (!y12.snd)
              (R (T.tup [T.v (Value.string { data := #[] }), T.v (Value.bool false)]))
              (reqK
                (decide (((List.map Sy.str.enc s11.snd.fst).length + 1) * 16 ≤ 140737488355328) &&
                  decide ((List.map Sy.str.enc s11.snd.fst).length + 1 ≤ 140737488355328))
                (iteP (decide (y12.fst.snd.fst = 1))
                  (rowsK Sy.str
                    (List.map Sy.str.enc s11.snd.fst ++ [[T.v (Value.string s11.fst)]])
                    (IntKind.i64.wrap
                      ((↑(List.map Sy.str.enc s11.snd.fst ++ [[T.v (Value.string s11.fst)]]).length :
                          Int) -
                        1))
                    fun (y13 : ByteArray) =>
                    partK Sy.str
                      (List.map Sy.str.enc s11.snd.fst ++ [[T.v (Value.string s11.fst)]])
                      (IntKind.i64.wrap
                          ((↑(List.map Sy.str.enc s11.snd.fst ++ [[T.v (Value.string s11.fst)]]).length :
                              Int) -
                            1)).toNat
                      0 fun (y14 : ByteArray) =>
                      R (T.tup [T.v (Value.string y14), T.v (Value.bool true)]))
                  (decK Sy.str
                    (List.map Sy.str.enc s11.snd.fst ++ [[T.v (Value.string s11.fst)]])
                    fun (y15 : List ByteArray) =>
                    X10 (y12.fst.snd.snd, y15, IntKind.i64.wrap (s11.snd.snd.fst + 1), ())))))
          (R (T.tup [T.v (Value.string { data := #[] }), T.v (Value.bool false)])))
      (a1, [], 0, ()))
theorem F_block_eq (a0 : TDesign) (a1 : ByteArray) (R : T → Prop) : sxTop stdC2 Tryz.prog E_block H_block 8 9 [encV true yDesign a0, encV false Sy.str a1] R = F_block a0 a1 R := by kernel_rfl
abbrev s_block : Sh := [(true, yDesign), (false, Sy.str)]
abbrev r_block : Sh := [(false, Sy.str), (false, Sy.bool)]
theorem r_block_call (y : Sh.den r_block) (K : Sh.den r_block → Prop) : callK r_block (some (Sh.enc r_block y)) K = K y := callK_enc rfl y K

noncomputable def g_block : List T → Option (T) := gS s_block sp_block
theorem g_block_at {a0 : TDesign} {a1 : ByteArray} : g_block [encV true yDesign a0, T.v (Value.string a1)] = sp_block (a0, a1) := gS_enc (s := s_block) rfl (a0, a1) rfl
theorem g_block_op {u0 u1 u2 u3 u4 u5 u6} : g_block [T.agg
    [T.v (Value.string u0), T.sl false (List.map yNode.enc u1),
      T.sl false (List.map yPart.enc u2),
      T.sl false (List.map ySeam.enc u3),
      T.sl false (List.map yPackage.enc u4),
      T.sl false (List.map yNeed.enc u5)],
  T.v (Value.string u6)] = sp_block ((u0, (u1, (u2, (u3, (u4, u5))))), u6) := gS_enc (s := s_block) rfl ((u0, (u1, (u2, (u3, (u4, u5))))), u6) rfl
theorem of_block (h : ∀ (a0 : TDesign) (a1 : ByteArray) (r : T), sp_block (a0, a1) = some r → BdSh s_block (a0, a1) → F_block a0 a1 (fun y => y = r)) : PureFn Tryz.prog 9 g_block :=
  pureFn_S (E := E_block) (Hs := H_block) Eok_block mixed' plain' (noHeap_of rfl) 8 ⟨_, _, Tryz.func9, rfl⟩ rfl fun x r h1 h2 => by
    obtain ⟨a0, a1⟩ := x
    rw [show Sh.encs s_block (a0, a1) = [encV true yDesign a0, encV false Sy.str a1] from rfl, F_block_eq]
    exact h a0 a1 r h1 h2

theorem fn_block : PureFn Tryz.prog 9 g_block := of_block fun d id r h hb => by
  obtain ⟨hok, hok2, _, rfl⟩ := onlyS_of h
  clear h
  have no : ∀ at0, blockOf d id = topOf d at0 → up d at0 = ([], false) → T.tup [T.v (Value.string { data := #[] }), T.v (Value.bool false)] = Sh.enc r_sb17 (blockOf d id) := by
    intro at0 he hu
    rw [he]; unfold topOf; rw [hu]; rfl
  have yes : ∀ at0, blockOf d id = topOf d at0 → ∀ id' l', l'.length < 65 → up d at0 = (l' ++ [id'], true) → rowsK Sy.str (List.map Sy.str.enc l' ++ [[T.v (Value.string id')]]) (IntKind.i64.wrap ((↑(List.map Sy.str.enc l' ++ [[T.v (Value.string id')]]).length : Int) - 1)) fun (y5 : ByteArray) => partK Sy.str (List.map Sy.str.enc l' ++ [[T.v (Value.string id')]]) (IntKind.i64.wrap ((↑(List.map Sy.str.enc l' ++ [[T.v (Value.string id')]]).length : Int) - 1)).toNat 0 fun (y6 : ByteArray) => T.tup [T.v (Value.string y6), T.v (Value.bool true)] = Sh.enc r_sb17 (blockOf d id) := by
    intro at0 he id' l' hl hu
    have hll : (l' ++ [id']).length ≤ 65 := by simp; omega
    have hne : l' ++ [id'] ≠ [] := by simp
    rw [he]; unfold topOf; rw [hu, enc_snoc, lastB_at hll hne, if_pos rfl]
    have e : (IntKind.i64.wrap ((↑(List.map Sy.str.enc (l' ++ [id'])).length : Int) - 1)).toNat = l'.length := by
      simp only [List.length_map, List.length_append, List.length_singleton]
      rw [wrap_id _ (by omega) (by omega)]; omega
    rw [e, partK_at (r := .str) (by simp)]
    simp [lastB, Sh.enc, Sh.encs, encV, Sy.enc, hdT]
  unfold F_block
  refine callK_some (s := [(true, yNode), (false, .bool)]) (y := found noNode (nodeOf d id)) g_node_at ?_
  cases hn : nodeOf d id with
  | some x =>
    simp only [found_s, found_n, Bool.not_true, iteP_f]
    have he : blockOf d id = topOf d id := by simp [blockOf, hn]
    exact climb_loop id (no id he) (yes id he)
  | none =>
    simp only [found_s, found_n, Bool.not_false, iteP_t]
    refine callK_some (s := [(true, yPart), (false, .bool)]) (y := found noPart (partOf d id)) (by rw [g_partD_at, sp_partD, hok]; rfl) ?_
    cases hp : partOf d id with
    | some p =>
      simp only [found_s, found_n, iteP_t]
      have he : blockOf d id = topOf d (pNode p) := by simp [blockOf, hn, hp]
      exact climb_loop (pNode p) (no _ he) (yes _ he)
    | none =>
      simp only [found_s, found_n, iteP_f]
      refine callK_some (s := [(true, yPackage), (false, .bool)]) (y := found noPack (packOf d id)) (by rw [g_pack_at, sp_pack, onlyK_ok _ hok2]) ?_
      cases hk : packOf d id with
      | none => simp only [found_s, found_n, iteP_f]; simp [blockOf, hn, hp, hk, Sh.enc, Sh.encs, encV, Sy.enc, hdT]
      | some k =>
        simp only [found_s, found_n, iteP_t]
        refine callK_some (s := [(true, yNode), (false, .bool)]) (y := found noNode (nodeOf d k.2.1)) g_node_at ?_
        cases hm : nodeOf d k.2.1 with
        | none => simp only [found_s, found_n, Bool.not_false, iteP_t]; simp [blockOf, hn, hp, hk, hm, Sh.enc, Sh.encs, encV, Sy.enc, hdT]
        | some m =>
          simp only [found_s, found_n, Bool.not_true, iteP_f]
          by_cases hx : m.2.1 = 1
          · refine iteP_nyes hx ?_
            simp [blockOf, hn, hp, hk, hm, hx, Sh.enc, Sh.encs, encV, Sy.enc, hdT]
          · refine iteP_nno hx ?_
            simp [blockOf, hn, hp, hk, hm, hx, Sh.enc, Sh.encs, encV, Sy.enc, hdT]
set_option maxRecDepth 100000
noncomputable def E_parts : Env := Env.of [(21, .pure g_node)]
def H_parts : FuncId → Hint := fun f => match f == 14 with | true => ⟨fun r => match r == 4 with | true => .inv [.own 4 1 .str, .map 2 .str false .bool, .val 20 false (.int .i64)] | false => match r == 10 with | true => .inv [.val 9 false .bool, .val 42 false (.int .i64)] | false => .none, fun i j => match i == 8 && j == 14 with | true => some [.val 9 false .bool, .map 2 .str false .bool] | false => match i == 8 && j == 8 with | true => some [.own 11 1 .str] | false => none, fun _ => none⟩ | false => match f == 32 with | true => ⟨fun r => match r == 3 with | true => .inv [.val 1 false .str, .own 6 1 .str, .val 9 false (.int .i64)] | false => .none, fun _ _ => none, fun _ => none⟩ | false => noHint
theorem Eok_parts : EnvOk Tryz.prog E_parts := EnvOk.cons (x := .pure g_node) fn_node (EnvOk.nil _)
def F_parts (a0 : TDesign) (a1 : ByteArray) (R : T → Prop) : Prop :=
  decMK Sy.str false Sy.bool [] fun (y0 : List (ByteArray × Bool)) =>
  loopK (List ByteArray × List (ByteArray × Bool) × Int × PUnit)
    (fun (X1 : List ByteArray × List (ByteArray × Bool) × Int × PUnit → Prop)
        (s2 : List ByteArray × List (ByteArray × Bool) × Int × PUnit) =>
      iteP (decide (s2.snd.snd.fst < (↑(List.map yPart.enc a0.snd.snd.fst).length : Int)))
        (rowsK yPart (List.map yPart.enc a0.snd.snd.fst) s2.snd.snd.fst fun (y3 : TPart) =>
          findK TypeDesc.string (Value.string y3.snd.snd.snd.fst)
            (List.map (encE Sy.str false Sy.bool) s2.snd.fst) false Sy.bool
            (joinK (List ByteArray × PUnit)
              (fun (X10 : List ByteArray × PUnit → Prop) =>
                loopK (ByteArray × List ByteArray × Int × PUnit)
                  (fun (X11 : ByteArray × List ByteArray × Int × PUnit → Prop)
                      (s12 : ByteArray × List ByteArray × Int × PUnit) =>
                    iteP (decide (s12.snd.snd.fst < 65))
                      (callK [(true, yNode), (false, Sy.bool)]
                        (g_node [encV true yDesign a0, T.v (Value.string s12.fst)])
                        fun (y13 : TNode × Bool) =>
                        iteP (!y13.snd) (X10 ([], ()))
                          (reqK
                            (decide (((List.map Sy.str.enc s12.snd.fst).length + 1) * 16 ≤ 140737488355328) &&
                              decide ((List.map Sy.str.enc s12.snd.fst).length + 1 ≤ 140737488355328))
                            (iteP (decide (y13.fst.snd.fst = 1))
                              (decK Sy.str
                                (List.map Sy.str.enc s12.snd.fst ++ [[T.v (Value.string s12.fst)]])
                                fun (y14 : List ByteArray) => X10 (y14, ()))
                              (decK Sy.str
                                (List.map Sy.str.enc s12.snd.fst ++ [[T.v (Value.string s12.fst)]])
                                fun (y15 : List ByteArray) =>
                                X11 (y13.fst.snd.snd, y15, IntKind.i64.wrap (s12.snd.snd.fst + 1), ())))))
                      (X10 ([], ())))
                  (y3.snd.snd.snd.fst, [], 0, ()))
              fun (s16 : List ByteArray × PUnit) =>
              loopK (Bool × Int × PUnit)
                (fun (X17 : Bool × Int × PUnit → Prop) (s18 : Bool × Int × PUnit) =>
                  iteP (decide (s18.snd.fst < (↑(List.map Sy.str.enc s16.fst).length : Int)))
                    (rowsK Sy.str (List.map Sy.str.enc s16.fst) s18.snd.fst fun (y19 : ByteArray) =>
                      partK Sy.str (List.map Sy.str.enc s16.fst) (Int.toNat s18.snd.fst) 0
                        fun (y20 : ByteArray) =>
                        iteP s18.fst (X17 (true, IntKind.i64.wrap (s18.snd.fst + 1), ()))
                          (X17 (decide (y20 = a1), IntKind.i64.wrap (s18.snd.fst + 1), ())))
                    (optK (Option (Nat × D))
                      (findD TypeDesc.string (Value.string y3.snd.snd.snd.fst)
                        (List.map (encE Sy.str false Sy.bool) s2.snd.fst) 0)
                      fun (y21 : Option (Nat × D)) =>
                      iteP s18.fst
                        (reqK
                          (decide (((List.map Sy.str.enc s2.fst).length + 1) * 16 ≤ 140737488355328) &&
                            decide ((List.map Sy.str.enc s2.fst).length + 1 ≤ 140737488355328))
                          (decK Sy.str
                            (List.map Sy.str.enc s2.fst ++ [[T.v (Value.string y3.fst)]])
                            fun (y22 : List ByteArray) =>
                            decMK Sy.str false Sy.bool
                              (setEnt (List.map (encE Sy.str false Sy.bool) s2.snd.fst) y21
                                (Value.string y3.snd.snd.snd.fst) (D.p (T.v (Value.bool s18.fst))))
                              fun (y23 : List (ByteArray × Bool)) =>
                              X1 (y22, y23, IntKind.i64.wrap (s2.snd.snd.fst + 1), ())))
                        (decK Sy.str (List.map Sy.str.enc s2.fst) fun (y24 : List ByteArray) =>
                          decMK Sy.str false Sy.bool
                            (setEnt (List.map (encE Sy.str false Sy.bool) s2.snd.fst) y21
                              (Value.string y3.snd.snd.snd.fst) (D.p (T.v (Value.bool s18.fst))))
                            fun (y25 : List (ByteArray × Bool)) =>
                            X1 (y24, y25, IntKind.i64.wrap (s2.snd.snd.fst + 1), ()))))
                (false, 0, ()))
            fun (i4 : Nat) (y5 : Bool) =>
            iteP y5
              (reqK
                (decide (((List.map Sy.str.enc s2.fst).length + 1) * 16 ≤ 140737488355328) &&
                  decide ((List.map Sy.str.enc s2.fst).length + 1 ≤ 140737488355328))
                (decK Sy.str (List.map Sy.str.enc s2.fst ++ [[T.v (Value.string y3.fst)]])
                  fun (y6 : List ByteArray) =>
                  decMK Sy.str false Sy.bool
                    (List.map (encE Sy.str false Sy.bool) s2.snd.fst)
                    fun (y7 : List (ByteArray × Bool)) => X1 (y6, y7, IntKind.i64.wrap (s2.snd.snd.fst + 1), ())))
              (decK Sy.str (List.map Sy.str.enc s2.fst) fun (y8 : List ByteArray) =>
                decMK Sy.str false Sy.bool
                  (List.map (encE Sy.str false Sy.bool) s2.snd.fst)
                  fun (y9 : List (ByteArray × Bool)) => X1 (y8, y9, IntKind.i64.wrap (s2.snd.snd.fst + 1), ())))
        (R (T.sl false (List.map Sy.str.enc s2.fst))))
    ([], y0, 0, ())
theorem F_parts_eq (a0 : TDesign) (a1 : ByteArray) (R : T → Prop) : sxTop stdC2 Tryz.prog E_parts H_parts 8 14 [encV true yDesign a0, encV false Sy.str a1] R = F_parts a0 a1 R := by kernel_rfl
abbrev s_parts : Sh := [(true, yDesign), (false, Sy.str)]
abbrev r_parts : Sh := [(false, Sy.str.li)]
theorem r_parts_call (y : Sh.den r_parts) (K : Sh.den r_parts → Prop) : callK r_parts (some (Sh.enc r_parts y)) K = K y := callK_enc rfl y K

noncomputable def g_parts : List T → Option (T) := gS s_parts sp_parts
theorem g_parts_at {a0 : TDesign} {a1 : ByteArray} : g_parts [encV true yDesign a0, T.v (Value.string a1)] = sp_parts (a0, a1) := gS_enc (s := s_parts) rfl (a0, a1) rfl
theorem g_parts_op {u0 u1 u2 u3 u4 u5 u6} : g_parts [T.agg
    [T.v (Value.string u0), T.sl false (List.map yNode.enc u1),
      T.sl false (List.map yPart.enc u2),
      T.sl false (List.map ySeam.enc u3),
      T.sl false (List.map yPackage.enc u4),
      T.sl false (List.map yNeed.enc u5)],
  T.v (Value.string u6)] = sp_parts ((u0, (u1, (u2, (u3, (u4, u5))))), u6) := gS_enc (s := s_parts) rfl ((u0, (u1, (u2, (u3, (u4, u5))))), u6) rfl
theorem of_parts (h : ∀ (a0 : TDesign) (a1 : ByteArray) (r : T), sp_parts (a0, a1) = some r → BdSh s_parts (a0, a1) → F_parts a0 a1 (fun y => y = r)) : PureFn Tryz.prog 14 g_parts :=
  pureFn_S (E := E_parts) (Hs := H_parts) Eok_parts mixed' plain' (noHeap_of rfl) 8 ⟨_, _, Tryz.func14, rfl⟩ rfl fun x r h1 h2 => by
    obtain ⟨a0, a1⟩ := x
    rw [show Sh.encs s_parts (a0, a1) = [encV true yDesign a0, encV false Sy.str a1] from rfl, F_parts_eq]
    exact h a0 a1 r h1 h2

theorem fn_parts : PureFn Tryz.prog 14 g_parts := of_parts fun d node r h hb => by
  obtain ⟨_, _, ⟨_, hl⟩, rfl⟩ := onlyS_of h
  replace hl : d.2.2.1.length ≤ 1000000 := hl
  clear h
  unfold F_parts
  refine decMK_eS (r := .bool) rfl [] _ ?_
  refine loopK_ix d.2.2.1.length (fun k s => ∃ es, s = (((d.2.2.1.take k).filter (inN d node)).map (fun n => n.1), es, (k : Int), ()) ∧ ∀ id b, getL es id = some b → b = hasT (up d id).1 node) ⟨[], rfl, fun id b h => by cases h⟩ ?_
  rintro X k s hk ⟨es, rfl, hes⟩ hX
  have hlen := filt_len (c := inN d node) (f := fun n => n.1) (l := d.2.2.1) (k := k)
  dsimp only
  by_cases hlt : k < d.2.2.1.length
  · have hw : IntKind.i64.wrap ((k : Int) + 1) = ((k + 1 : Nat) : Int) := wrap_id _ (by omega) (by omega)
    refine iteP_yes (by simp [hlt]) ?_
    rw [rowsK_at (r := yPart) hlt]
    generalize hpe : d.2.2.1[k] = p
    refine findK_S (r := .bool) (fun hno => ?_) (fun i v hv => ?_)
    · rw [joinK_def]
      have go : ∀ ls, ls = (up d (pNode p)).1 → ls.length ≤ 65 → loopK (Bool × Int × PUnit) (fun (X17 : Bool × Int × PUnit → Prop) (s18 : Bool × Int × PUnit) => iteP (decide (s18.snd.fst < (↑(List.map Sy.str.enc ls).length : Int)))
            (rowsK Sy.str (List.map Sy.str.enc ls) s18.snd.fst fun (y19 : ByteArray) => partK Sy.str (List.map Sy.str.enc ls) (Int.toNat s18.snd.fst) 0 fun (y20 : ByteArray) => iteP s18.fst (X17 (true, IntKind.i64.wrap (s18.snd.fst + 1), ())) (X17 (decide (y20 = node), IntKind.i64.wrap (s18.snd.fst + 1), ())))
            (optK (Option (Nat × D)) (findD TypeDesc.string (Value.string p.snd.snd.snd.fst) (List.map (encE Sy.str false Sy.bool) es) 0) fun (y21 : Option (Nat × D)) =>
              iteP s18.fst (reqK (decide (((List.map Sy.str.enc (((d.2.2.1.take k).filter (inN d node)).map (fun n => n.1))).length + 1) * 16 ≤ 140737488355328) && decide ((List.map Sy.str.enc (((d.2.2.1.take k).filter (inN d node)).map (fun n => n.1))).length + 1 ≤ 140737488355328))
                  (decK Sy.str (List.map Sy.str.enc (((d.2.2.1.take k).filter (inN d node)).map (fun n => n.1)) ++ [[T.v (Value.string p.fst)]]) fun (y22 : List ByteArray) => decMK Sy.str false Sy.bool (setEnt (List.map (encE Sy.str false Sy.bool) es) y21 (Value.string p.snd.snd.snd.fst) (D.p (T.v (Value.bool s18.fst)))) fun (y23 : List (ByteArray × Bool)) => X (y22, y23, IntKind.i64.wrap ((k : Int) + 1), ())))
                (decK Sy.str (List.map Sy.str.enc (((d.2.2.1.take k).filter (inN d node)).map (fun n => n.1))) fun (y24 : List ByteArray) => decMK Sy.str false Sy.bool (setEnt (List.map (encE Sy.str false Sy.bool) es) y21 (Value.string p.snd.snd.snd.fst) (D.p (T.v (Value.bool s18.fst)))) fun (y25 : List (ByteArray × Bool)) => X (y24, y25, IntKind.i64.wrap ((k : Int) + 1), ()))))
          (false, 0, ()) := by
        intro ls hls hll
        have hin : inN d node p = hasT ls node := by rw [hls]; rfl
        refine loopK_ix ls.length (fun j s => s = (hasT (ls.take j) node, (j : Int), ())) (by simp [hasT]) ?_
        rintro Y j s hj rfl hY
        dsimp only
        by_cases hlj : j < ls.length
        · refine iteP_yes (by simp [hlj]) ?_
          have hs : hasT (ls.take (j + 1)) node = (hasT (ls.take j) node || decide (ls[j] = node)) := by
            unfold hasT; rw [List.take_succ_eq_append_getElem hlj, List.any_append]; simp
          have hj1 : IntKind.i64.wrap ((j : Int) + 1) = ((j + 1 : Nat) : Int) := wrap_id _ (by omega) (by omega)
          rw [rowsK_at (r := .str) hlj, Int.toNat_natCast, partK_at (r := .str) hlj]
          refine iteP_b (fun hf => hY _ hlj ?_) (fun hf => hY _ hlj ?_)
          · rw [hs, hf, hj1]; rfl
          · rw [hs, hf, hj1]; rfl
        · have : j = ls.length := by omega
          subst this
          refine iteP_no (by simp) ?_
          rw [List.take_length]
          have hes' : ∀ id b, getL (insL es p.2.2.2.1 (hasT ls node)) id = some b → b = hasT (up d id).1 node := by
            intro id b hb
            rw [getL_ins] at hb
            split at hb
            · rename_i e; cases hb; rw [← e, hls]
            · exact hes id b hb
          have ins := fun (K : List (ByteArray × Bool) → Prop) (hK : K (insL es p.2.2.2.1 (hasT ls node))) => ins_S (r := .bool) rfl (es := es) (k := p.2.2.2.1) (v := hasT ls node) hK
          rcases hb2 : hasT ls node with _ | _
          · rw [hb2] at ins hes' hin
            obtain ⟨y, h1, h2⟩ := ins (fun es' => X (((d.2.2.1.take k).filter (inN d node)).map (fun n => n.1), es', IntKind.i64.wrap ((k : Int) + 1), ())) (hX _ hlt ⟨_, by rw [filt_no hlt (by rw [hpe]; exact hin), hw], hes'⟩)
            refine ⟨y, h1, ?_⟩
            show iteP false _ _
            rw [iteP_f, decK_map (r := .str) rfl]
            exact h2
          · rw [hb2] at ins hes' hin
            obtain ⟨y, h1, h2⟩ := ins (fun es' => X (((d.2.2.1.take k).filter (inN d node)).map (fun n => n.1) ++ [p.1], es', IntKind.i64.wrap ((k : Int) + 1), ())) (hX _ hlt ⟨_, by rw [filt_yes hlt (by rw [hpe]; exact hin), hw, hpe], hes'⟩)
            refine ⟨y, h1, ?_⟩
            show iteP true _ _
            rw [iteP_t, app_ok (by omega), dec_snoc]
            exact h2
      refine climb_loop (d := d) (pNode p) (Fd := fun id' l' => decK Sy.str (List.map Sy.str.enc l' ++ [[T.v (Value.string id')]]) _) (fun hu => go [] (by rw [hu]) (by simp)) (fun id' l' hl' hu => ?_)
      rw [dec_snoc]
      exact go _ (by rw [hu]) (by simp; omega)
    · have hv' := hes _ _ hv
      refine iteP_b (fun h1 => ?_) (fun h1 => ?_)
      · rw [app_ok (by omega), dec_snoc]
        exact decMK_eS (r := .bool) rfl es _ (hX _ hlt ⟨es, by rw [filt_yes hlt (by rw [hpe]; exact hv'.symm.trans h1), hw, hpe], hes⟩)
      · rw [decK_map (r := .str) rfl]
        exact decMK_eS (r := .bool) rfl es _ (hX _ hlt ⟨es, by rw [filt_no hlt (by rw [hpe]; exact hv'.symm.trans h1), hw], hes⟩)
  · have : k = d.2.2.1.length := by omega
    subst this
    refine iteP_no (by simp) ?_
    rw [List.take_length]; rfl
end Go.Pv
