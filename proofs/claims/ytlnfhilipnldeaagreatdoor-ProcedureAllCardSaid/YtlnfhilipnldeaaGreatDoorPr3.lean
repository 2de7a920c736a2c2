/-
  part: Check, Mass.
  Chapter 17: the tree's parts and packages in full.
  Chapter 17: the tree's packages in full.
  Chapter 17: Check where the parts and packages are empty ones; StructureLong, walked.
  Chapter 17: structure.Check in full.
  What a valid design is known by; the laws of chapter 18 about valid designs: their functions, walked.
  Lemmas for the laws of chapter 18 about valid designs.
  A procedure for all grades and thicknesses, in a valid design: plain.
  ProcedureAll: the law's function.
-/
import Derived.Test.YtlnfhilipnldeaaGreatDoorPr2
import Derived.Sort.Walk0
import Derived.Test.YtlnfhilipnldeaaGreatDoorPkp
import Derived.Test.YtlnfhilipnldeaaGreatDoorPr1
import Derived.Test.YtlnfhilipnldeaaGreatDoorPkj
import Derived.KernelRfl
import Derived.Test.YtlnfhilipnldeaaGreatDoorPa31
set_option linter.unusedSimpArgs false
set_option linter.unusedVariables false
set_option maxRecDepth 100000
namespace Go.Pv
open Go Go.Proofs
abbrev aKind (p : TPart) : Int := p.2.2.1
abbrev aNode (p : TPart) : ByteArray := p.2.2.2.1
abbrev aGrade (p : TPart) : ByteArray := p.2.2.2.2.1
abbrev aThick (p : TPart) : Int := p.2.2.2.2.2.1
abbrev aShape (p : TPart) : TShape := p.2.2.2.2.2.2.1
abbrev aSec (p : TPart) : ByteArray := p.2.2.2.2.2.2.2.1
abbrev aLen (p : TPart) : Int := p.2.2.2.2.2.2.2.2.1
abbrev aMass (p : TPart) : Int := p.2.2.2.2.2.2.2.2.2.1
abbrev aCen (p : TPart) : TVec := p.2.2.2.2.2.2.2.2.2.2.1
abbrev aAt (p : TPart) : TPlace := p.2.2.2.2.2.2.2.2.2.2.2
def shapeF (p : TPart) : Bool := !decide (aThick p = 0) || decide (0 < (aShape p).1.length + (aShape p).2.length)
def lenF (p : TPart) : Bool := !decide (aSec p = { data := #[] }) || !decide (aLen p = 0)
def massF (p : TPart) : Bool := !decide (aMass p = 0) || !(decide ((aCen p).1 = 0) && (decide ((aCen p).2.1 = 0) && decide ((aCen p).2.2 = 0)))
def spareB (p : TPart) : Bool := if aKind p = 1 then lenF p || massF p else if aKind p = 2 ∨ aKind p = 3 then shapeF p || massF p else !decide (aGrade p = { data := #[] }) || (shapeF p || lenF p)
set_option maxRecDepth 100000
noncomputable def E_pspare : Env := Env.of []
def H_pspare : FuncId → Hint := fun f => match f == 63 with | true => ⟨fun _ => .none, fun i j => match i == 1 && j == 1 with | true => some [.val 3 false .bool] | false => match i == 2 && j == 2 with | true => some [.val 4 false .bool] | false => match i == 3 && j == 3 with | true => some [.val 5 false .bool] | false => none, fun _ => none⟩ | false => noHint
theorem Eok_pspare : EnvOk Tryz.prog E_pspare := EnvOk.nil _
def F_pspare (a0 : TPart) (R : T → Prop) : Prop :=
 joinK (Bool × PUnit)
 (fun (X0 : Bool × PUnit → Prop) =>
 iteP (!decide (a0.snd.snd.snd.snd.snd.fst = 0)) (X0 (true, ()))
 (X0
 (decide
 (0 <
 IntKind.i64.wrap
 ((↑(List.map yPoint.enc a0.snd.snd.snd.snd.snd.snd.fst.fst).length : Int) +
 (↑(List.map yPoint.li.enc a0.snd.snd.snd.snd.snd.snd.fst.snd).length : Int))),
 ())))
 fun (s1 : Bool × PUnit) =>
 joinK (Bool × PUnit)
 (fun (X2 : Bool × PUnit → Prop) =>
 iteP (!decide (a0.snd.snd.snd.snd.snd.snd.snd.fst = { data := #[] })) (X2 (true, ()))
 (X2 (!decide (a0.snd.snd.snd.snd.snd.snd.snd.snd.fst = 0), ())))
 fun (s3 : Bool × PUnit) =>
 joinK (Bool × PUnit)
 (fun (X4 : Bool × PUnit → Prop) =>
 iteP (!decide (a0.snd.snd.snd.snd.snd.snd.snd.snd.snd.fst = 0)) (X4 (true, ()))
 (X4
 (!(decide (a0.snd.snd.snd.snd.snd.snd.snd.snd.snd.snd.fst.fst = 0) &&
 (decide (a0.snd.snd.snd.snd.snd.snd.snd.snd.snd.snd.fst.snd.fst = 0) &&
 (decide (a0.snd.snd.snd.snd.snd.snd.snd.snd.snd.snd.fst.snd.snd = 0) && true))),
 ())))
 fun (s5 : Bool × PUnit) =>
 iteP (decide (a0.snd.snd.fst = 1))
 (iteP s3.fst (R (T.v (Value.bool true))) (R (T.v (Value.bool s5.fst))))
 (iteP (decide (a0.snd.snd.fst = 2))
 (iteP s1.fst (R (T.v (Value.bool true))) (R (T.v (Value.bool s5.fst))))
 (iteP (decide (a0.snd.snd.fst = 3))
 (iteP s1.fst (R (T.v (Value.bool true))) (R (T.v (Value.bool s5.fst))))
 (iteP (decide (a0.snd.snd.fst = 4))
 (iteP (!decide (a0.snd.snd.snd.snd.fst = { data := #[] })) (R (T.v (Value.bool true)))
 (iteP s1.fst (R (T.v (Value.bool true))) (R (T.v (Value.bool s3.fst)))))
 (iteP (!decide (a0.snd.snd.snd.snd.fst = { data := #[] })) (R (T.v (Value.bool true)))
 (iteP s1.fst (R (T.v (Value.bool true))) (R (T.v (Value.bool s3.fst))))))))
theorem F_pspare_eq (a0 : TPart) (R : T → Prop) : sxTop stdC2 Tryz.prog E_pspare H_pspare 8 63 [encV true yPart a0] R = F_pspare a0 R := by kernel_rfl
abbrev s_pspare : Sh := [(true, yPart)]
abbrev r_pspare : Sh := [(false, Sy.bool)]
theorem r_pspare_call (y : Sh.den r_pspare) (K : Sh.den r_pspare → Prop) : callK r_pspare (some (Sh.enc r_pspare y)) K = K y := callK_enc rfl y K

def sp_pspare (p : TPart) : Option T := some (T.v (Value.bool (spareB p)))
noncomputable def g_pspare : List T → Option (T) := gS s_pspare sp_pspare
theorem g_pspare_at {a0 : TPart} : g_pspare [encV true yPart a0] = sp_pspare (a0) := gS_enc (s := s_pspare) rfl (a0) rfl
theorem g_pspare_op {u0 u1 u2 u3 u4 u5 u6 u7 u8 u9 u10 u11 u12 u13 u14 u15 u16 u17} : g_pspare [T.agg
    [T.v (Value.string u0), T.v (Value.int IntKind.i64 u1),
      T.v (Value.int IntKind.i64 u2), T.v (Value.string u3),
      T.v (Value.string u4),
      T.v (Value.int IntKind.i64 u5),
      T.sl false (List.map yPoint.enc u6),
      T.sl false (List.map yPoint.li.enc u7),
      T.v (Value.string u8),
      T.v (Value.int IntKind.i64 u9),
      T.v (Value.int IntKind.i64 u10),
      T.v (Value.int IntKind.i64 u11),
      T.v (Value.int IntKind.i64 u12),
      T.v (Value.int IntKind.i64 u13),
      T.v (Value.int IntKind.i64 u14),
      T.v (Value.int IntKind.i64 u15),
      T.v (Value.int IntKind.i64 u16),
      T.v (Value.int IntKind.i64 u17)]] = sp_pspare ((u0, (u1, (u2, (u3, (u4, (u5, ((u6, u7), (u8, (u9, (u10, ((u11, (u12, u13)), ((u14, (u15, u16)), u17))))))))))))) := gS_enc (s := s_pspare) rfl ((u0, (u1, (u2, (u3, (u4, (u5, ((u6, u7), (u8, (u9, (u10, ((u11, (u12, u13)), ((u14, (u15, u16)), u17))))))))))))) rfl
theorem of_pspare (h : ∀ (a0 : TPart) (r : T), sp_pspare (a0) = some r → BdSh s_pspare (a0) → F_pspare a0 (fun y => y = r)) : PureFn Tryz.prog 63 g_pspare :=
  pureFn_S (E := E_pspare) (Hs := H_pspare) Eok_pspare mixed' plain' (noHeap_of rfl) 8 ⟨_, _, Tryz.func63, rfl⟩ rfl fun x r h1 h2 => by
    let a0 := x
    rw [show Sh.encs s_pspare (a0) = [encV true yPart a0] from rfl, F_pspare_eq]
    exact h a0 r h1 h2

theorem or_if {a b : Bool} {n : Bool} {A : Prop} (h : n = (a || b)) (hA : T.v (Value.bool (a || b)) = T.v (Value.bool n) → A) : A := hA (by rw [h])
theorem ite_or {a b : Bool} {n : Bool} (h : n = (a || b)) : iteP a (T.v (Value.bool true) = T.v (Value.bool n)) (T.v (Value.bool b) = T.v (Value.bool n)) := by
  subst h; cases a <;> rfl
theorem fn_pspare : PureFn Tryz.prog 63 g_pspare := of_pspare fun p r h hb => by
  have b1 : (aShape p).1.length ≤ 2 ^ 47 := hb.2.2.2.2.2.2.1.1.1
  have b2 : (aShape p).2.length ≤ 2 ^ 47 := hb.2.2.2.2.2.2.1.2.1
  cases h
  unfold F_pspare
  have j : ∀ {a b : Bool} {K : Bool × PUnit → Prop}, K (a || b, ()) → joinK (Bool × PUnit) (fun (X : Bool × PUnit → Prop) => iteP a (X (true, ())) (X (b, ()))) K := fun {a b K} hK => by
    rw [joinK_def]; cases a <;> exact hK
  have e1 : decide (0 < IntKind.i64.wrap (((List.map yPoint.enc (aShape p).1).length : Int) + ((List.map yPoint.li.enc (aShape p).2).length : Int))) = decide (0 < (aShape p).1.length + (aShape p).2.length) := by
    rw [List.length_map, List.length_map, wrap_id _ (by omega) (by omega)]
    exact decide_eq_decide.2 (by omega)
  refine j ?_
  refine j ?_
  refine j ?_
  dsimp only
  rw [e1, Bool.and_true]
  refine ifP (fun h => ite_or (by unfold spareB; rw [if_pos h]; rfl)) fun k1 => ?_
  refine ifP (fun h => ite_or (by unfold spareB; rw [if_neg k1, if_pos (.inl h)]; rfl)) fun k2 => ?_
  refine ifP (fun h => ite_or (by unfold spareB; rw [if_neg k1, if_pos (.inr h)]; rfl)) fun k3 => ?_
  have w : spareB p = (!decide (aGrade p = { data := #[] }) || (shapeF p || lenF p)) := by
    unfold spareB; rw [if_neg k1, if_neg]; rintro (h | h)
    · exact k2 h
    · exact k3 h
  have fin : iteP (!decide (aGrade p = { data := #[] })) (T.v (Value.bool true) = T.v (Value.bool (spareB p))) (iteP (shapeF p) (T.v (Value.bool true) = T.v (Value.bool (spareB p))) (T.v (Value.bool (lenF p)) = T.v (Value.bool (spareB p)))) := by
    rw [w]
    cases (!decide (aGrade p = { data := #[] })) with
    | true => rfl
    | false => exact ite_or rfl
  exact ifP (fun _ => fin) fun _ => fin
def secOk (m : TMaterials) (n : ByteArray) : Bool := match secOf m n with
  | some s => decide (1 ≤ s.2.1) && decide (s.2.1 ≤ 1000000) && (decide (1 ≤ s.2.2.1) && decide (s.2.2.1 ≤ 2000))
  | none => false
def madeB (p : TPart) (m : TMaterials) : Bool := if aKind p = 4 then true else match gradeOf m (aGrade p) with
  | none => false
  | some g => decide (1000 ≤ g.2.1) && decide (g.2.1 ≤ 20000) && (if aKind p = 1 then decide (1 ≤ aThick p) && decide (aThick p ≤ 120) && rolledB m (aGrade p) (aThick p) else secOk m (aSec p))
set_option maxRecDepth 100000
noncomputable def E_pmade : Env := Env.of [(68, .pure g_mGrade), (69, .pure g_section), (76, .pure g_mrolled)]
def H_pmade : FuncId → Hint := fun _ => noHint
theorem Eok_pmade : EnvOk Tryz.prog E_pmade := EnvOk.cons (x := .pure g_mGrade) fn_mGrade (EnvOk.cons (x := .pure g_section) fn_section (EnvOk.cons (x := .pure g_mrolled) fn_mrolled (EnvOk.nil _)))
def F_pmade (a0 : TPart) (a1 : TMaterials) (R : T → Prop) : Prop :=
 iteP (decide (a0.snd.snd.fst = 1))
 (callK [(true, yGrade), (false, Sy.bool)]
 (g_mGrade [encV true yMaterials a1, T.v (Value.string a0.snd.snd.snd.snd.fst)])
 fun (y0 : TGrade × Bool) =>
 iteP (!y0.snd) (R (T.v (Value.bool false)))
 (iteP (decide (1000 ≤ y0.fst.snd.fst))
 (iteP (!decide (y0.fst.snd.fst ≤ 20000)) (R (T.v (Value.bool false)))
 (iteP (decide (a0.snd.snd.fst = 1))
 (iteP (decide (1 ≤ a0.snd.snd.snd.snd.snd.fst))
 (iteP (decide (a0.snd.snd.snd.snd.snd.fst ≤ 120))
 (callK [(false, Sy.bool)]
 (g_mrolled
 [encV true yMaterials a1, T.v (Value.string a0.snd.snd.snd.snd.fst),
 T.v (Value.int IntKind.i64 a0.snd.snd.snd.snd.snd.fst)])
 fun (y1 : Bool) => R (T.v (Value.bool y1)))
 (R (T.v (Value.bool false))))
 (R (T.v (Value.bool false))))
 (iteP (decide (a0.snd.snd.fst = 2))
 (callK [(true, ySection), (false, Sy.bool)]
 (g_section
 [encV true yMaterials a1, T.v (Value.string a0.snd.snd.snd.snd.snd.snd.snd.fst)])
 fun (y2 : TSection × Bool) =>
 iteP y2.snd
 (iteP (decide (1 ≤ y2.fst.snd.fst))
 (iteP (decide (y2.fst.snd.fst ≤ 1000000))
 (iteP (decide (1 ≤ y2.fst.snd.snd.fst))
 (R (T.v (Value.bool (decide (y2.fst.snd.snd.fst ≤ 2000)))))
 (R (T.v (Value.bool false))))
 (R (T.v (Value.bool false))))
 (R (T.v (Value.bool false))))
 (R (T.v (Value.bool false))))
 (iteP (decide (a0.snd.snd.fst = 3))
 (callK [(true, ySection), (false, Sy.bool)]
 (g_section
 [encV true yMaterials a1,
 T.v (Value.string a0.snd.snd.snd.snd.snd.snd.snd.fst)])
 fun (y3 : TSection × Bool) =>
 iteP y3.snd
 (iteP (decide (1 ≤ y3.fst.snd.fst))
 (iteP (decide (y3.fst.snd.fst ≤ 1000000))
 (iteP (decide (1 ≤ y3.fst.snd.snd.fst))
 (R (T.v (Value.bool (decide (y3.fst.snd.snd.fst ≤ 2000)))))
 (R (T.v (Value.bool false))))
 (R (T.v (Value.bool false))))
 (R (T.v (Value.bool false))))
 (R (T.v (Value.bool false))))
 (iteP (decide (a0.snd.snd.fst = 4))
 (callK [(true, ySection), (false, Sy.bool)]
 (g_section
 [encV true yMaterials a1,
 T.v (Value.string a0.snd.snd.snd.snd.snd.snd.snd.fst)])
 fun (y4 : TSection × Bool) =>
 iteP y4.snd
 (iteP (decide (1 ≤ y4.fst.snd.fst))
 (iteP (decide (y4.fst.snd.fst ≤ 1000000))
 (iteP (decide (1 ≤ y4.fst.snd.snd.fst))
 (R (T.v (Value.bool (decide (y4.fst.snd.snd.fst ≤ 2000)))))
 (R (T.v (Value.bool false))))
 (R (T.v (Value.bool false))))
 (R (T.v (Value.bool false))))
 (R (T.v (Value.bool false))))
 (callK [(true, ySection), (false, Sy.bool)]
 (g_section
 [encV true yMaterials a1,
 T.v (Value.string a0.snd.snd.snd.snd.snd.snd.snd.fst)])
 fun (y5 : TSection × Bool) =>
 iteP y5.snd
 (iteP (decide (1 ≤ y5.fst.snd.fst))
 (iteP (decide (y5.fst.snd.fst ≤ 1000000))
 (iteP (decide (1 ≤ y5.fst.snd.snd.fst))
 (R (T.v (Value.bool (decide (y5.fst.snd.snd.fst ≤ 2000)))))
 (R (T.v (Value.bool false))))
 (R (T.v (Value.bool false))))
 (R (T.v (Value.bool false))))
 (R (T.v (Value.bool false)))))))))
 (R (T.v (Value.bool false)))))
 (iteP (decide (a0.snd.snd.fst = 2))
 (callK [(true, yGrade), (false, Sy.bool)]
 (g_mGrade [encV true yMaterials a1, T.v (Value.string a0.snd.snd.snd.snd.fst)])
 fun (y6 : TGrade × Bool) =>
 iteP (!y6.snd) (R (T.v (Value.bool false)))
 (iteP (decide (1000 ≤ y6.fst.snd.fst))
 (iteP (!decide (y6.fst.snd.fst ≤ 20000)) (R (T.v (Value.bool false)))
 (iteP (decide (a0.snd.snd.fst = 1))
 (iteP (decide (1 ≤ a0.snd.snd.snd.snd.snd.fst))
 (iteP (decide (a0.snd.snd.snd.snd.snd.fst ≤ 120))
 (callK [(false, Sy.bool)]
 (g_mrolled
 [encV true yMaterials a1, T.v (Value.string a0.snd.snd.snd.snd.fst),
 T.v (Value.int IntKind.i64 a0.snd.snd.snd.snd.snd.fst)])
 fun (y7 : Bool) => R (T.v (Value.bool y7)))
 (R (T.v (Value.bool false))))
 (R (T.v (Value.bool false))))
 (iteP (decide (a0.snd.snd.fst = 2))
 (callK [(true, ySection), (false, Sy.bool)]
 (g_section
 [encV true yMaterials a1,
 T.v (Value.string a0.snd.snd.snd.snd.snd.snd.snd.fst)])
 fun (y8 : TSection × Bool) =>
 iteP y8.snd
 (iteP (decide (1 ≤ y8.fst.snd.fst))
 (iteP (decide (y8.fst.snd.fst ≤ 1000000))
 (iteP (decide (1 ≤ y8.fst.snd.snd.fst))
 (R (T.v (Value.bool (decide (y8.fst.snd.snd.fst ≤ 2000)))))
 (R (T.v (Value.bool false))))
 (R (T.v (Value.bool false))))
 (R (T.v (Value.bool false))))
 (R (T.v (Value.bool false))))
 (iteP (decide (a0.snd.snd.fst = 3))
 (callK [(true, ySection), (false, Sy.bool)]
 (g_section
 [encV true yMaterials a1,
 T.v (Value.string a0.snd.snd.snd.snd.snd.snd.snd.fst)])
 fun (y9 : TSection × Bool) =>
 iteP y9.snd
 (iteP (decide (1 ≤ y9.fst.snd.fst))
 (iteP (decide (y9.fst.snd.fst ≤ 1000000))
 (iteP (decide (1 ≤ y9.fst.snd.snd.fst))
 (R (T.v (Value.bool (decide (y9.fst.snd.snd.fst ≤ 2000)))))
 (R (T.v (Value.bool false))))
 (R (T.v (Value.bool false))))
 (R (T.v (Value.bool false))))
 (R (T.v (Value.bool false))))
 (iteP (decide (a0.snd.snd.fst = 4))
 (callK [(true, ySection), (false, Sy.bool)]
 (g_section
 [encV true yMaterials a1,
 T.v (Value.string a0.snd.snd.snd.snd.snd.snd.snd.fst)])
 fun (y10 : TSection × Bool) =>
 iteP y10.snd
 (iteP (decide (1 ≤ y10.fst.snd.fst))
 (iteP (decide (y10.fst.snd.fst ≤ 1000000))
 (iteP (decide (1 ≤ y10.fst.snd.snd.fst))
 (R (T.v (Value.bool (decide (y10.fst.snd.snd.fst ≤ 2000)))))
 (R (T.v (Value.bool false))))
 (R (T.v (Value.bool false))))
 (R (T.v (Value.bool false))))
 (R (T.v (Value.bool false))))
 (callK [(true, ySection), (false, Sy.bool)]
 (g_section
 [encV true yMaterials a1,
 T.v (Value.string a0.snd.snd.snd.snd.snd.snd.snd.fst)])
 fun (y11 : TSection × Bool) =>
 iteP y11.snd
 (iteP (decide (1 ≤ y11.fst.snd.fst))
 (iteP (decide (y11.fst.snd.fst ≤ 1000000))
 (iteP (decide (1 ≤ y11.fst.snd.snd.fst))
 (R (T.v (Value.bool (decide (y11.fst.snd.snd.fst ≤ 2000)))))
 (R (T.v (Value.bool false))))
 (R (T.v (Value.bool false))))
 (R (T.v (Value.bool false))))
 (R (T.v (Value.bool false)))))))))
 (R (T.v (Value.bool false)))))
 (iteP (decide (a0.snd.snd.fst = 3))
 (callK [(true, yGrade), (false, Sy.bool)]
 (g_mGrade [encV true yMaterials a1, T.v (Value.string a0.snd.snd.snd.snd.fst)])
 fun (y12 : TGrade × Bool) =>
 iteP (!y12.snd) (R (T.v (Value.bool false)))
 (iteP (decide (1000 ≤ y12.fst.snd.fst))
 (iteP (!decide (y12.fst.snd.fst ≤ 20000)) (R (T.v (Value.bool false)))
 (iteP (decide (a0.snd.snd.fst = 1))
 (iteP (decide (1 ≤ a0.snd.snd.snd.snd.snd.fst))
 (iteP (decide (a0.snd.snd.snd.snd.snd.fst ≤ 120))
 (callK [(false, Sy.bool)]
 (g_mrolled
 [encV true yMaterials a1, T.v (Value.string a0.snd.snd.snd.snd.fst),
 T.v (Value.int IntKind.i64 a0.snd.snd.snd.snd.snd.fst)])
 fun (y13 : Bool) => R (T.v (Value.bool y13)))
 (R (T.v (Value.bool false))))
 (R (T.v (Value.bool false))))
 (iteP (decide (a0.snd.snd.fst = 2))
 (callK [(true, ySection), (false, Sy.bool)]
 (g_section
 [encV true yMaterials a1,
 T.v (Value.string a0.snd.snd.snd.snd.snd.snd.snd.fst)])
 fun (y14 : TSection × Bool) =>
 iteP y14.snd
 (iteP (decide (1 ≤ y14.fst.snd.fst))
 (iteP (decide (y14.fst.snd.fst ≤ 1000000))
 (iteP (decide (1 ≤ y14.fst.snd.snd.fst))
 (R (T.v (Value.bool (decide (y14.fst.snd.snd.fst ≤ 2000)))))
 (R (T.v (Value.bool false))))
 (R (T.v (Value.bool false))))
 (R (T.v (Value.bool false))))
 (R (T.v (Value.bool false))))
 (iteP (decide (a0.snd.snd.fst = 3))
 (callK [(true, ySection), (false, Sy.bool)]
 (g_section
 [encV true yMaterials a1,
 T.v (Value.string a0.snd.snd.snd.snd.snd.snd.snd.fst)])
 fun (y15 : TSection × Bool) =>
 iteP y15.snd
 (iteP (decide (1 ≤ y15.fst.snd.fst))
 (iteP (decide (y15.fst.snd.fst ≤ 1000000))
 (iteP (decide (1 ≤ y15.fst.snd.snd.fst))
 (R (T.v (Value.bool (decide (y15.fst.snd.snd.fst ≤ 2000)))))
 (R (T.v (Value.bool false))))
 (R (T.v (Value.bool false))))
 (R (T.v (Value.bool false))))
 (R (T.v (Value.bool false))))
 (iteP (decide (a0.snd.snd.fst = 4))
 (callK [(true, ySection), (false, Sy.bool)]
 (g_section
 [encV true yMaterials a1,
 T.v (Value.string a0.snd.snd.snd.snd.snd.snd.snd.fst)])
 fun (y16 : TSection × Bool) =>
 iteP y16.snd
 (iteP (decide (1 ≤ y16.fst.snd.fst))
 (iteP (decide (y16.fst.snd.fst ≤ 1000000))
 (iteP (decide (1 ≤ y16.fst.snd.snd.fst))
 (R (T.v (Value.bool (decide (y16.fst.snd.snd.fst ≤ 2000)))))
 (R (T.v (Value.bool false))))
 (R (T.v (Value.bool false))))
 (R (T.v (Value.bool false))))
 (R (T.v (Value.bool false))))
 (callK [(true, ySection), (false, Sy.bool)]
 (g_section
 [encV true yMaterials a1,
 T.v (Value.string a0.snd.snd.snd.snd.snd.snd.snd.fst)])
 fun (y17 : TSection × Bool) =>
 iteP y17.snd
 (iteP (decide (1 ≤ y17.fst.snd.fst))
 (iteP (decide (y17.fst.snd.fst ≤ 1000000))
 (iteP (decide (1 ≤ y17.fst.snd.snd.fst))
 (R (T.v (Value.bool (decide (y17.fst.snd.snd.fst ≤ 2000)))))
 (R (T.v (Value.bool false))))
 (R (T.v (Value.bool false))))
 (R (T.v (Value.bool false))))
 (R (T.v (Value.bool false)))))))))
 (R (T.v (Value.bool false)))))
 (iteP (decide (a0.snd.snd.fst = 4)) (R (T.v (Value.bool true)))
 (callK [(true, yGrade), (false, Sy.bool)]
 (g_mGrade [encV true yMaterials a1, T.v (Value.string a0.snd.snd.snd.snd.fst)])
 fun (y18 : TGrade × Bool) =>
 iteP (!y18.snd) (R (T.v (Value.bool false)))
 (iteP (decide (1000 ≤ y18.fst.snd.fst))
 (iteP (!decide (y18.fst.snd.fst ≤ 20000)) (R (T.v (Value.bool false)))
 (iteP (decide (a0.snd.snd.fst = 1))
 (iteP (decide (1 ≤ a0.snd.snd.snd.snd.snd.fst))
 (iteP (decide (a0.snd.snd.snd.snd.snd.fst ≤ 120))
 (callK [(false, Sy.bool)]
 (g_mrolled
 [encV true yMaterials a1, T.v (Value.string a0.snd.snd.snd.snd.fst),
 T.v (Value.int IntKind.i64 a0.snd.snd.snd.snd.snd.fst)])
 fun (y19 : Bool) => R (T.v (Value.bool y19)))
 (R (T.v (Value.bool false))))
 (R (T.v (Value.bool false))))
 (iteP (decide (a0.snd.snd.fst = 2))
 (callK [(true, ySection), (false, Sy.bool)]
 (g_section
 [encV true yMaterials a1,
 T.v (Value.string a0.snd.snd.snd.snd.snd.snd.snd.fst)])
 fun (y20 : TSection × Bool) =>
 iteP y20.snd
 (iteP (decide (1 ≤ y20.fst.snd.fst))
 (iteP (decide (y20.fst.snd.fst ≤ 1000000))
 (iteP (decide (1 ≤ y20.fst.snd.snd.fst))
 (R (T.v (Value.bool (decide (y20.fst.snd.snd.fst ≤ 2000)))))
 (R (T.v (Value.bool false))))
 (R (T.v (Value.bool false))))
 (R (T.v (Value.bool false))))
 (R (T.v (Value.bool false))))
 (iteP (decide (a0.snd.snd.fst = 3))
 (callK [(true, ySection), (false, Sy.bool)]
 (g_section
 [encV true yMaterials a1,
 T.v (Value.string a0.snd.snd.snd.snd.snd.snd.snd.fst)])
 fun (y21 : TSection × Bool) =>
 iteP y21.snd
 (iteP (decide (1 ≤ y21.fst.snd.fst))
 (iteP (decide (y21.fst.snd.fst ≤ 1000000))
 (iteP (decide (1 ≤ y21.fst.snd.snd.fst))
 (R (T.v (Value.bool (decide (y21.fst.snd.snd.fst ≤ 2000)))))
 (R (T.v (Value.bool false))))
 (R (T.v (Value.bool false))))
 (R (T.v (Value.bool false))))
 (R (T.v (Value.bool false))))
 (iteP (decide (a0.snd.snd.fst = 4))
 (callK [(true, ySection), (false, Sy.bool)]
 (g_section
 [encV true yMaterials a1,
 T.v (Value.string a0.snd.snd.snd.snd.snd.snd.snd.fst)])
 fun (y22 : TSection × Bool) =>
 iteP y22.snd
 (iteP (decide (1 ≤ y22.fst.snd.fst))
 (iteP (decide (y22.fst.snd.fst ≤ 1000000))
 (iteP (decide (1 ≤ y22.fst.snd.snd.fst))
 (R (T.v (Value.bool (decide (y22.fst.snd.snd.fst ≤ 2000)))))
 (R (T.v (Value.bool false))))
 (R (T.v (Value.bool false))))
 (R (T.v (Value.bool false))))
 (R (T.v (Value.bool false))))
 (callK [(true, ySection), (false, Sy.bool)]
 (g_section
 [encV true yMaterials a1,
 T.v (Value.string a0.snd.snd.snd.snd.snd.snd.snd.fst)])
 fun (y23 : TSection × Bool) =>
 iteP y23.snd
 (iteP (decide (1 ≤ y23.fst.snd.fst))
 (iteP (decide (y23.fst.snd.fst ≤ 1000000))
 (iteP (decide (1 ≤ y23.fst.snd.snd.fst))
 (R (T.v (Value.bool (decide (y23.fst.snd.snd.fst ≤ 2000)))))
 (R (T.v (Value.bool false))))
 (R (T.v (Value.bool false))))
 (R (T.v (Value.bool false))))
 (R (T.v (Value.bool false)))))))))
 (R (T.v (Value.bool false))))))))
theorem F_pmade_eq (a0 : TPart) (a1 : TMaterials) (R : T → Prop) : sxTop stdC2 Tryz.prog E_pmade H_pmade 8 64 [encV true yPart a0, encV true yMaterials a1] R = F_pmade a0 a1 R := by kernel_rfl
abbrev s_pmade : Sh := [(true, yPart), (true, yMaterials)]
abbrev r_pmade : Sh := [(false, Sy.bool)]
theorem r_pmade_call (y : Sh.den r_pmade) (K : Sh.den r_pmade → Prop) : callK r_pmade (some (Sh.enc r_pmade y)) K = K y := callK_enc rfl y K

def sp_pmade (x : TPart × TMaterials) : Option T := onlyM x.2 (T.v (Value.bool (madeB x.1 x.2)))
noncomputable def g_pmade : List T → Option (T) := gS s_pmade sp_pmade
theorem g_pmade_at {a0 : TPart} {a1 : TMaterials} : g_pmade [encV true yPart a0, encV true yMaterials a1] = sp_pmade (a0, a1) := gS_enc (s := s_pmade) rfl (a0, a1) rfl
theorem g_pmade_op {u0 u1 u2 u3 u4 u5 u6 u7 u8 u9 u10 u11 u12 u13 u14 u15 u16 u17 u18 u19} : g_pmade [T.agg
    [T.v (Value.string u0), T.v (Value.int IntKind.i64 u1),
      T.v (Value.int IntKind.i64 u2), T.v (Value.string u3),
      T.v (Value.string u4),
      T.v (Value.int IntKind.i64 u5),
      T.sl false (List.map yPoint.enc u6),
      T.sl false (List.map yPoint.li.enc u7),
      T.v (Value.string u8),
      T.v (Value.int IntKind.i64 u9),
      T.v (Value.int IntKind.i64 u10),
      T.v (Value.int IntKind.i64 u11),
      T.v (Value.int IntKind.i64 u12),
      T.v (Value.int IntKind.i64 u13),
      T.v (Value.int IntKind.i64 u14),
      T.v (Value.int IntKind.i64 u15),
      T.v (Value.int IntKind.i64 u16),
      T.v (Value.int IntKind.i64 u17)],
  T.agg [T.sl false (List.map yGrade.enc u18), T.sl false (List.map ySection.enc u19)]] = sp_pmade ((u0, (u1, (u2, (u3, (u4, (u5, ((u6, u7), (u8, (u9, (u10, ((u11, (u12, u13)), ((u14, (u15, u16)), u17)))))))))))), (u18, u19)) := gS_enc (s := s_pmade) rfl ((u0, (u1, (u2, (u3, (u4, (u5, ((u6, u7), (u8, (u9, (u10, ((u11, (u12, u13)), ((u14, (u15, u16)), u17)))))))))))), (u18, u19)) rfl
theorem of_pmade (h : ∀ (a0 : TPart) (a1 : TMaterials) (r : T), sp_pmade (a0, a1) = some r → BdSh s_pmade (a0, a1) → F_pmade a0 a1 (fun y => y = r)) : PureFn Tryz.prog 64 g_pmade :=
  pureFn_S (E := E_pmade) (Hs := H_pmade) Eok_pmade mixed' plain' (noHeap_of rfl) 8 ⟨_, _, Tryz.func64, rfl⟩ rfl fun x r h1 h2 => by
    obtain ⟨a0, a1⟩ := x
    rw [show Sh.encs s_pmade (a0, a1) = [encV true yPart a0, encV true yMaterials a1] from rfl, F_pmade_eq]
    exact h a0 a1 r h1 h2

theorem g_section_ok (m : TMaterials) (n : ByteArray) : g_section [encV true yMaterials m, T.v (Value.string n)] = some (Sh.enc [(true, ySection), (false, .bool)] (found noSec (secOf m n))) := g_section_at ..
theorem fn_pmade : PureFn Tryz.prog 64 g_pmade := of_pmade fun p m r h hb => by
  obtain ⟨hok, rfl⟩ := onlyM_of h
  replace hok : okM m = true := hok
  clear h
  have is : ∀ {n : Bool}, madeB p m = n → T.v (Value.bool n) = T.v (Value.bool (madeB p m)) := fun h => by rw [h]
  unfold F_pmade
  have sec : ∀ {g : TGrade}, gradeOf m (aGrade p) = some g → ¬ aKind p = 4 → ¬ aKind p = 1 → 1000 ≤ g.2.1 → g.2.1 ≤ 20000 →
      callK [(true, ySection), (false, Sy.bool)] (g_section [encV true yMaterials m, T.v (Value.string (aSec p))])
        fun (y2 : TSection × Bool) =>
        iteP y2.snd
          (iteP (decide (1 ≤ y2.fst.snd.fst))
            (iteP (decide (y2.fst.snd.fst ≤ 1000000))
              (iteP (decide (1 ≤ y2.fst.snd.snd.fst))
                (T.v (Value.bool (decide (y2.fst.snd.snd.fst ≤ 2000))) = T.v (Value.bool (madeB p m)))
                (T.v (Value.bool false) = T.v (Value.bool (madeB p m))))
              (T.v (Value.bool false) = T.v (Value.bool (madeB p m))))
            (T.v (Value.bool false) = T.v (Value.bool (madeB p m))))
          (T.v (Value.bool false) = T.v (Value.bool (madeB p m))) := by
    intro g hg k4 k1 d1 d2
    have w : madeB p m = secOk m (aSec p) := by
      unfold madeB; rw [if_neg k4, hg]; dsimp only; rw [decide_eq_true d1, decide_eq_true d2, if_neg k1]; rfl
    refine callK_some (s := [(true, ySection), (false, .bool)]) (g_section_ok m _) ?_
    cases hs : secOf m (aSec p) with
    | none =>
      show iteP false _ _
      rw [iteP_f]; exact is (by rw [w]; unfold secOk; rw [hs])
    | some s =>
      show iteP true _ _
      rw [iteP_t]
      dsimp only [found]
      have w2 : madeB p m = (decide (1 ≤ s.2.1) && decide (s.2.1 ≤ 1000000) && (decide (1 ≤ s.2.2.1) && decide (s.2.2.1 ≤ 2000))) := by rw [w]; unfold secOk; rw [hs]
      refine ifP (fun h1 => ifP (fun h2 => ifP (fun h3 => is ?_) fun h3 => is ?_) fun h2 => is ?_) fun h1 => is ?_
      · rw [w2, decide_eq_true h1, decide_eq_true h2, decide_eq_true h3]; rfl
      · rw [w2, decide_eq_true h1, decide_eq_true h2, decide_eq_false h3]; rfl
      · rw [w2, decide_eq_true h1, decide_eq_false h2]; rfl
      · rw [w2, decide_eq_false h1]; rfl
  have plate : ∀ {g : TGrade}, gradeOf m (aGrade p) = some g → aKind p = 1 → 1000 ≤ g.2.1 → g.2.1 ≤ 20000 →
      iteP (decide (1 ≤ aThick p)) (iteP (decide (aThick p ≤ 120)) (callK [(false, Sy.bool)] (g_mrolled [encV true yMaterials m, T.v (Value.string (aGrade p)), T.v (Value.int IntKind.i64 (aThick p))]) fun (y1 : Bool) => T.v (Value.bool y1) = T.v (Value.bool (madeB p m))) (T.v (Value.bool false) = T.v (Value.bool (madeB p m)))) (T.v (Value.bool false) = T.v (Value.bool (madeB p m))) := by
    intro g hg k1 d1 d2
    have w : madeB p m = (decide (1 ≤ aThick p) && decide (aThick p ≤ 120) && rolledB m (aGrade p) (aThick p)) := by
      unfold madeB; rw [if_neg (by omega), hg]; dsimp only; rw [decide_eq_true d1, decide_eq_true d2, if_pos k1]; rfl
    refine ifP (fun h1 => ifP (fun h2 => ?_) fun h2 => is ?_) fun h1 => is ?_
    · refine callK_some (s := [(false, .bool)]) (y := rolledB m (aGrade p) (aThick p)) ((g_mrolled_at ..).trans (onlyM_ok _ hok)) (is ?_)
      rw [w, decide_eq_true h1, decide_eq_true h2]; rfl
    · rw [w, decide_eq_true h1, decide_eq_false h2]; rfl
    · rw [w, decide_eq_false h1]; rfl
  by_cases k4 : p.2.2.1 = 4
  · have w : madeB p m = true := by unfold madeB; rw [if_pos k4]
    repeat' first
      | (exfalso; omega)
      | exact is w
      | refine ifP (fun h => ?_) (fun h => ?_)
  · have hnone : gradeOf m (aGrade p) = none → madeB p m = false := fun h => by unfold madeB; rw [if_neg k4, h]
    have dens : ∀ {g : TGrade}, gradeOf m (aGrade p) = some g → ¬ (1000 ≤ g.2.1 ∧ g.2.1 ≤ 20000) → madeB p m = false := fun {g} hg h => by
      unfold madeB; rw [if_neg k4, hg]; dsimp only
      by_cases h1 : 1000 ≤ g.2.1
      · rw [decide_eq_false (show ¬ g.2.1 ≤ 20000 by omega), Bool.and_false, Bool.false_and]
      · rw [decide_eq_false h1, Bool.false_and, Bool.false_and]
    have call : ∀ {K : TGrade × Bool → Prop}, (gradeOf m (aGrade p) = none → K (noGrade, false)) → (∀ g, gradeOf m (aGrade p) = some g → K (g, true)) → callK [(true, yGrade), (false, Sy.bool)] (g_mGrade [encV true yMaterials m, T.v (Value.string p.2.2.2.2.1)]) K := fun {K} h1 h2 => by
      refine callK_some (s := [(true, yGrade), (false, .bool)]) (g_mGrade_ok hok _) ?_
      cases hg : gradeOf m (aGrade p) with
      | none => exact h1 hg
      | some g => exact h2 g hg
    have body : ∀ {K : TGrade × Bool → Prop}, (∀ g, gradeOf m (aGrade p) = some g → 1000 ≤ g.2.1 → g.2.1 ≤ 20000 → K (g, true)) → callK [(true, yGrade), (false, Sy.bool)] (g_mGrade [encV true yMaterials m, T.v (Value.string p.2.2.2.2.1)]) fun (y0 : TGrade × Bool) => iteP (!y0.snd) (T.v (Value.bool false) = T.v (Value.bool (madeB p m))) (iteP (decide (1000 ≤ y0.fst.snd.fst)) (iteP (!decide (y0.fst.snd.fst ≤ 20000)) (T.v (Value.bool false) = T.v (Value.bool (madeB p m))) (K y0)) (T.v (Value.bool false) = T.v (Value.bool (madeB p m)))) := fun {K} hK => by
      refine call (fun hn => ?_) fun g hg => ?_
      · show iteP true _ _
        rw [iteP_t]; exact is (hnone hn)
      · show iteP false _ _
        rw [iteP_f]
        exact ifP (fun d1 => ifQ (fun d2 => is (dens hg (fun h => d2 h.2))) fun d2 => hK g hg d1 d2) fun d1 => is (dens hg (fun h => d1 h.1))
    refine ifP (fun h => body fun g hg d1 d2 => ?_) fun h1 => ifP (fun h => body fun g hg d1 d2 => ?_) fun h2 => ifP (fun h => body fun g hg d1 d2 => ?_) fun h3 => ifP (fun h => absurd h k4) fun _ => body fun g hg d1 d2 => ?_
    all_goals
      repeat' first
        | (exfalso; omega)
        | exact plate hg (by assumption) d1 d2
        | exact sec hg k4 (by assumption) d1 d2
        | exact sec hg k4 (by intro h'; have h'' : p.2.2.1 = 1 := h'; omega) d1 d2
        | refine ifP (fun h => ?_) (fun h => ?_)
/-! ### Check -/
def partE (p : TPart) (m : TMaterials) : Int := if isId p.1 = false ∨ isId (aNode p) = false then 6 else if ¬ (1 ≤ p.2.1 ∧ p.2.1 ≤ 1000) then 9 else if ¬ (aKind p = 1 ∨ aKind p = 2 ∨ aKind p = 3 ∨ aKind p = 4) then 10 else if spareB p = true then 2 else if madeB p m = false then 23 else
  if aKind p = 1 ∧ ¬ regE (aShape p) = 0 then regE (aShape p) else if (aKind p = 2 ∨ aKind p = 3) ∧ ¬ (1 ≤ aLen p ∧ aLen p ≤ 32768) then 9 else if aKind p = 4 ∧ ¬ (1 ≤ aMass p ∧ aMass p ≤ 1099511627776 ∧ vecIn (aCen p) = true) then 9 else if placeB (aAt p) = false then 9 else 0
set_option maxRecDepth 100000
noncomputable def E_ptcheck : Env := Env.of [(38, .pure g_isId), (63, .pure g_pspare), (64, .pure g_pmade), (65, .pure g_rcheck), (67, .pure g_vvalid)]
def H_ptcheck : FuncId → Hint := fun _ => noHint
theorem Eok_ptcheck : EnvOk Tryz.prog E_ptcheck := EnvOk.cons (x := .pure g_isId) fn_isId (EnvOk.cons (x := .pure g_pspare) fn_pspare (EnvOk.cons (x := .pure g_pmade) fn_pmade (EnvOk.cons (x := .pure g_rcheck) fn_rcheck (EnvOk.cons (x := .pure g_vvalid) fn_vvalid (EnvOk.nil _)))))
def F_ptcheck (a0 : TPart) (a1 : TMaterials) (R : T → Prop) : Prop :=
 callK [(false, Sy.bool)] (g_isId [T.v (Value.string a0.fst)]) fun (y0 : Bool) =>
 iteP (!y0) (R (T.v (Value.int IntKind.i64 6)))
 (callK [(false, Sy.bool)] (g_isId [T.v (Value.string a0.snd.snd.snd.fst)])
 fun (y1 : Bool) =>
 iteP (!y1) (R (T.v (Value.int IntKind.i64 6)))
 (iteP (decide (1 ≤ a0.snd.fst))
 (iteP (!decide (a0.snd.fst ≤ 1000)) (R (T.v (Value.int IntKind.i64 9)))
 (iteP (decide (a0.snd.snd.fst = 1))
 (callK [(false, Sy.bool)] (g_pspare [encV true yPart a0]) fun (y2 : Bool) =>
 iteP y2 (R (T.v (Value.int IntKind.i64 2)))
 (callK [(false, Sy.bool)]
 (g_pmade [encV true yPart a0, encV true yMaterials a1])
 fun (y3 : Bool) =>
 iteP (!y3) (R (T.v (Value.int IntKind.i64 23)))
 (iteP (decide (a0.snd.snd.fst = 1))
 (callK [(false, Sy.int IntKind.i64)]
 (g_rcheck [encV true yShape a0.snd.snd.snd.snd.snd.snd.fst])
 fun (y4 : Int) =>
 iteP (!decide (y4 = 0)) (R (T.v (Value.int IntKind.i64 y4)))
 (callK [(false, Sy.bool)]
 (g_vvalid
 [encV true yPlace a0.snd.snd.snd.snd.snd.snd.snd.snd.snd.snd.snd])
 fun (y5 : Bool) =>
 iteP (!y5) (R (T.v (Value.int IntKind.i64 9)))
 (R (T.v (Value.int IntKind.i64 0)))))
 (iteP (decide (a0.snd.snd.fst = 2))
 (iteP (decide (1 ≤ a0.snd.snd.snd.snd.snd.snd.snd.snd.fst))
 (iteP (!decide (a0.snd.snd.snd.snd.snd.snd.snd.snd.fst ≤ 32768))
 (R (T.v (Value.int IntKind.i64 9)))
 (callK [(false, Sy.bool)]
 (g_vvalid
 [encV true yPlace a0.snd.snd.snd.snd.snd.snd.snd.snd.snd.snd.snd])
 fun (y6 : Bool) =>
 iteP (!y6) (R (T.v (Value.int IntKind.i64 9)))
 (R (T.v (Value.int IntKind.i64 0)))))
 (R (T.v (Value.int IntKind.i64 9))))
 (iteP (decide (a0.snd.snd.fst = 3))
 (iteP (decide (1 ≤ a0.snd.snd.snd.snd.snd.snd.snd.snd.fst))
 (iteP (!decide (a0.snd.snd.snd.snd.snd.snd.snd.snd.fst ≤ 32768))
 (R (T.v (Value.int IntKind.i64 9)))
 (callK [(false, Sy.bool)]
 (g_vvalid
 [encV true yPlace a0.snd.snd.snd.snd.snd.snd.snd.snd.snd.snd.snd])
 fun (y7 : Bool) =>
 iteP (!y7) (R (T.v (Value.int IntKind.i64 9)))
 (R (T.v (Value.int IntKind.i64 0)))))
 (R (T.v (Value.int IntKind.i64 9))))
 (iteP (decide (a0.snd.snd.fst = 4))
 (iteP (decide (1 ≤ a0.snd.snd.snd.snd.snd.snd.snd.snd.snd.fst))
 (iteP (!decide (a0.snd.snd.snd.snd.snd.snd.snd.snd.snd.fst ≤ 1099511627776))
 (R (T.v (Value.int IntKind.i64 9)))
 (callK [(false, Sy.bool)]
 (g_vvalid
 [T.agg
 [T.v
 (Value.int IntKind.i64
 a0.snd.snd.snd.snd.snd.snd.snd.snd.snd.snd.fst.fst),
 T.v
 (Value.int IntKind.i64
 a0.snd.snd.snd.snd.snd.snd.snd.snd.snd.snd.fst.snd.fst),
 T.v
 (Value.int IntKind.i64
 a0.snd.snd.snd.snd.snd.snd.snd.snd.snd.snd.fst.snd.snd),
 T.v (Value.int IntKind.i64 0)]])
 fun (y8 : Bool) =>
 iteP (!y8) (R (T.v (Value.int IntKind.i64 9)))
 (callK [(false, Sy.bool)]
 (g_vvalid
 [encV true yPlace a0.snd.snd.snd.snd.snd.snd.snd.snd.snd.snd.snd])
 fun (y9 : Bool) =>
 iteP (!y9) (R (T.v (Value.int IntKind.i64 9)))
 (R (T.v (Value.int IntKind.i64 0))))))
 (R (T.v (Value.int IntKind.i64 9))))
 (callK [(false, Sy.bool)]
 (g_vvalid
 [encV true yPlace a0.snd.snd.snd.snd.snd.snd.snd.snd.snd.snd.snd])
 fun (y10 : Bool) =>
 iteP (!y10) (R (T.v (Value.int IntKind.i64 9)))
 (R (T.v (Value.int IntKind.i64 0))))))))))
 (iteP (decide (a0.snd.snd.fst = 2))
 (callK [(false, Sy.bool)] (g_pspare [encV true yPart a0])
 fun (y11 : Bool) =>
 iteP y11 (R (T.v (Value.int IntKind.i64 2)))
 (callK [(false, Sy.bool)]
 (g_pmade [encV true yPart a0, encV true yMaterials a1])
 fun (y12 : Bool) =>
 iteP (!y12) (R (T.v (Value.int IntKind.i64 23)))
 (iteP (decide (a0.snd.snd.fst = 1))
 (callK [(false, Sy.int IntKind.i64)]
 (g_rcheck [encV true yShape a0.snd.snd.snd.snd.snd.snd.fst])
 fun (y13 : Int) =>
 iteP (!decide (y13 = 0)) (R (T.v (Value.int IntKind.i64 y13)))
 (callK [(false, Sy.bool)]
 (g_vvalid
 [encV true yPlace a0.snd.snd.snd.snd.snd.snd.snd.snd.snd.snd.snd])
 fun (y14 : Bool) =>
 iteP (!y14) (R (T.v (Value.int IntKind.i64 9)))
 (R (T.v (Value.int IntKind.i64 0)))))
 (iteP (decide (a0.snd.snd.fst = 2))
 (iteP (decide (1 ≤ a0.snd.snd.snd.snd.snd.snd.snd.snd.fst))
 (iteP (!decide (a0.snd.snd.snd.snd.snd.snd.snd.snd.fst ≤ 32768))
 (R (T.v (Value.int IntKind.i64 9)))
 (callK [(false, Sy.bool)]
 (g_vvalid
 [encV true yPlace a0.snd.snd.snd.snd.snd.snd.snd.snd.snd.snd.snd])
 fun (y15 : Bool) =>
 iteP (!y15) (R (T.v (Value.int IntKind.i64 9)))
 (R (T.v (Value.int IntKind.i64 0)))))
 (R (T.v (Value.int IntKind.i64 9))))
 (iteP (decide (a0.snd.snd.fst = 3))
 (iteP (decide (1 ≤ a0.snd.snd.snd.snd.snd.snd.snd.snd.fst))
 (iteP (!decide (a0.snd.snd.snd.snd.snd.snd.snd.snd.fst ≤ 32768))
 (R (T.v (Value.int IntKind.i64 9)))
 (callK [(false, Sy.bool)]
 (g_vvalid
 [encV true yPlace a0.snd.snd.snd.snd.snd.snd.snd.snd.snd.snd.snd])
 fun (y16 : Bool) =>
 iteP (!y16) (R (T.v (Value.int IntKind.i64 9)))
 (R (T.v (Value.int IntKind.i64 0)))))
 (R (T.v (Value.int IntKind.i64 9))))
 (iteP (decide (a0.snd.snd.fst = 4))
 (iteP (decide (1 ≤ a0.snd.snd.snd.snd.snd.snd.snd.snd.snd.fst))
 (iteP (!decide (a0.snd.snd.snd.snd.snd.snd.snd.snd.snd.fst ≤ 1099511627776))
 (R (T.v (Value.int IntKind.i64 9)))
 (callK [(false, Sy.bool)]
 (g_vvalid
 [T.agg
 [T.v
 (Value.int IntKind.i64
 a0.snd.snd.snd.snd.snd.snd.snd.snd.snd.snd.fst.fst),
 T.v
 (Value.int IntKind.i64
 a0.snd.snd.snd.snd.snd.snd.snd.snd.snd.snd.fst.snd.fst),
 T.v
 (Value.int IntKind.i64
 a0.snd.snd.snd.snd.snd.snd.snd.snd.snd.snd.fst.snd.snd),
 T.v (Value.int IntKind.i64 0)]])
 fun (y17 : Bool) =>
 iteP (!y17) (R (T.v (Value.int IntKind.i64 9)))
 (callK [(false, Sy.bool)]
 (g_vvalid
 [encV true yPlace
 a0.snd.snd.snd.snd.snd.snd.snd.snd.snd.snd.snd])
 fun (y18 : Bool) =>
 iteP (!y18) (R (T.v (Value.int IntKind.i64 9)))
 (R (T.v (Value.int IntKind.i64 0))))))
 (R (T.v (Value.int IntKind.i64 9))))
 (callK [(false, Sy.bool)]
 (g_vvalid
 [encV true yPlace a0.snd.snd.snd.snd.snd.snd.snd.snd.snd.snd.snd])
 fun (y19 : Bool) =>
 iteP (!y19) (R (T.v (Value.int IntKind.i64 9)))
 (R (T.v (Value.int IntKind.i64 0))))))))))
 (iteP (decide (a0.snd.snd.fst = 3))
 (callK [(false, Sy.bool)] (g_pspare [encV true yPart a0])
 fun (y20 : Bool) =>
 iteP y20 (R (T.v (Value.int IntKind.i64 2)))
 (callK [(false, Sy.bool)]
 (g_pmade [encV true yPart a0, encV true yMaterials a1])
 fun (y21 : Bool) =>
 iteP (!y21) (R (T.v (Value.int IntKind.i64 23)))
 (iteP (decide (a0.snd.snd.fst = 1))
 (callK [(false, Sy.int IntKind.i64)]
 (g_rcheck [encV true yShape a0.snd.snd.snd.snd.snd.snd.fst])
 fun (y22 : Int) =>
 iteP (!decide (y22 = 0)) (R (T.v (Value.int IntKind.i64 y22)))
 (callK [(false, Sy.bool)]
 (g_vvalid
 [encV true yPlace a0.snd.snd.snd.snd.snd.snd.snd.snd.snd.snd.snd])
 fun (y23 : Bool) =>
 iteP (!y23) (R (T.v (Value.int IntKind.i64 9)))
 (R (T.v (Value.int IntKind.i64 0)))))
 (iteP (decide (a0.snd.snd.fst = 2))
 (iteP (decide (1 ≤ a0.snd.snd.snd.snd.snd.snd.snd.snd.fst))
 (iteP (!decide (a0.snd.snd.snd.snd.snd.snd.snd.snd.fst ≤ 32768))
 (R (T.v (Value.int IntKind.i64 9)))
 (callK [(false, Sy.bool)]
 (g_vvalid
 [encV true yPlace a0.snd.snd.snd.snd.snd.snd.snd.snd.snd.snd.snd])
 fun (y24 : Bool) =>
 iteP (!y24) (R (T.v (Value.int IntKind.i64 9)))
 (R (T.v (Value.int IntKind.i64 0)))))
 (R (T.v (Value.int IntKind.i64 9))))
 (iteP (decide (a0.snd.snd.fst = 3))
 (iteP (decide (1 ≤ a0.snd.snd.snd.snd.snd.snd.snd.snd.fst))
 (iteP (!decide (a0.snd.snd.snd.snd.snd.snd.snd.snd.fst ≤ 32768))
 (R (T.v (Value.int IntKind.i64 9)))
 (callK [(false, Sy.bool)]
 (g_vvalid
 [encV true yPlace a0.snd.snd.snd.snd.snd.snd.snd.snd.snd.snd.snd])
 fun (y25 : Bool) =>
 iteP (!y25) (R (T.v (Value.int IntKind.i64 9)))
 (R (T.v (Value.int IntKind.i64 0)))))
 (R (T.v (Value.int IntKind.i64 9))))
 (iteP (decide (a0.snd.snd.fst = 4))
 (iteP (decide (1 ≤ a0.snd.snd.snd.snd.snd.snd.snd.snd.snd.fst))
 (iteP (!decide (a0.snd.snd.snd.snd.snd.snd.snd.snd.snd.fst ≤ 1099511627776))
 (R (T.v (Value.int IntKind.i64 9)))
 (callK [(false, Sy.bool)]
 (g_vvalid
 [T.agg
 [T.v
 (Value.int IntKind.i64
 a0.snd.snd.snd.snd.snd.snd.snd.snd.snd.snd.fst.fst),
 T.v
 (Value.int IntKind.i64
 a0.snd.snd.snd.snd.snd.snd.snd.snd.snd.snd.fst.snd.fst),
 T.v
 (Value.int IntKind.i64
 a0.snd.snd.snd.snd.snd.snd.snd.snd.snd.snd.fst.snd.snd),
 T.v (Value.int IntKind.i64 0)]])
 fun (y26 : Bool) =>
 iteP (!y26) (R (T.v (Value.int IntKind.i64 9)))
 (callK [(false, Sy.bool)]
 (g_vvalid
 [encV true yPlace
 a0.snd.snd.snd.snd.snd.snd.snd.snd.snd.snd.snd])
 fun (y27 : Bool) =>
 iteP (!y27) (R (T.v (Value.int IntKind.i64 9)))
 (R (T.v (Value.int IntKind.i64 0))))))
 (R (T.v (Value.int IntKind.i64 9))))
 (callK [(false, Sy.bool)]
 (g_vvalid
 [encV true yPlace a0.snd.snd.snd.snd.snd.snd.snd.snd.snd.snd.snd])
 fun (y28 : Bool) =>
 iteP (!y28) (R (T.v (Value.int IntKind.i64 9)))
 (R (T.v (Value.int IntKind.i64 0))))))))))
 (iteP (decide (a0.snd.snd.fst = 4))
 (callK [(false, Sy.bool)] (g_pspare [encV true yPart a0])
 fun (y29 : Bool) =>
 iteP y29 (R (T.v (Value.int IntKind.i64 2)))
 (callK [(false, Sy.bool)]
 (g_pmade [encV true yPart a0, encV true yMaterials a1])
 fun (y30 : Bool) =>
 iteP (!y30) (R (T.v (Value.int IntKind.i64 23)))
 (iteP (decide (a0.snd.snd.fst = 1))
 (callK [(false, Sy.int IntKind.i64)]
 (g_rcheck [encV true yShape a0.snd.snd.snd.snd.snd.snd.fst])
 fun (y31 : Int) =>
 iteP (!decide (y31 = 0)) (R (T.v (Value.int IntKind.i64 y31)))
 (callK [(false, Sy.bool)]
 (g_vvalid
 [encV true yPlace a0.snd.snd.snd.snd.snd.snd.snd.snd.snd.snd.snd])
 fun (y32 : Bool) =>
 iteP (!y32) (R (T.v (Value.int IntKind.i64 9)))
 (R (T.v (Value.int IntKind.i64 0)))))
 (iteP (decide (a0.snd.snd.fst = 2))
 (iteP (decide (1 ≤ a0.snd.snd.snd.snd.snd.snd.snd.snd.fst))
 (iteP (!decide (a0.snd.snd.snd.snd.snd.snd.snd.snd.fst ≤ 32768))
 (R (T.v (Value.int IntKind.i64 9)))
 (callK [(false, Sy.bool)]
 (g_vvalid
 [encV true yPlace a0.snd.snd.snd.snd.snd.snd.snd.snd.snd.snd.snd])
 fun (y33 : Bool) =>
 iteP (!y33) (R (T.v (Value.int IntKind.i64 9)))
 (R (T.v (Value.int IntKind.i64 0)))))
 (R (T.v (Value.int IntKind.i64 9))))
 (iteP (decide (a0.snd.snd.fst = 3))
 (iteP (decide (1 ≤ a0.snd.snd.snd.snd.snd.snd.snd.snd.fst))
 (iteP (!decide (a0.snd.snd.snd.snd.snd.snd.snd.snd.fst ≤ 32768))
 (R (T.v (Value.int IntKind.i64 9)))
 (callK [(false, Sy.bool)]
 (g_vvalid
 [encV true yPlace a0.snd.snd.snd.snd.snd.snd.snd.snd.snd.snd.snd])
 fun (y34 : Bool) =>
 iteP (!y34) (R (T.v (Value.int IntKind.i64 9)))
 (R (T.v (Value.int IntKind.i64 0)))))
 (R (T.v (Value.int IntKind.i64 9))))
 (iteP (decide (a0.snd.snd.fst = 4))
 (iteP (decide (1 ≤ a0.snd.snd.snd.snd.snd.snd.snd.snd.snd.fst))
 (iteP (!decide (a0.snd.snd.snd.snd.snd.snd.snd.snd.snd.fst ≤ 1099511627776))
 (R (T.v (Value.int IntKind.i64 9)))
 (callK [(false, Sy.bool)]
 (g_vvalid
 [T.agg
 [T.v
 (Value.int IntKind.i64
 a0.snd.snd.snd.snd.snd.snd.snd.snd.snd.snd.fst.fst),
 T.v
 (Value.int IntKind.i64
 a0.snd.snd.snd.snd.snd.snd.snd.snd.snd.snd.fst.snd.fst),
 T.v
 (Value.int IntKind.i64
 a0.snd.snd.snd.snd.snd.snd.snd.snd.snd.snd.fst.snd.snd),
 T.v (Value.int IntKind.i64 0)]])
 fun (y35 : Bool) =>
 iteP (!y35) (R (T.v (Value.int IntKind.i64 9)))
 (callK [(false, Sy.bool)]
 (g_vvalid
 [encV true yPlace
 a0.snd.snd.snd.snd.snd.snd.snd.snd.snd.snd.snd])
 fun (y36 : Bool) =>
 iteP (!y36) (R (T.v (Value.int IntKind.i64 9)))
 (R (T.v (Value.int IntKind.i64 0))))))
 (R (T.v (Value.int IntKind.i64 9))))
 (callK [(false, Sy.bool)]
 (g_vvalid
 [encV true yPlace a0.snd.snd.snd.snd.snd.snd.snd.snd.snd.snd.snd])
 fun (y37 : Bool) =>
 iteP (!y37) (R (T.v (Value.int IntKind.i64 9)))
 (R (T.v (Value.int IntKind.i64 0))))))))))
 (R (T.v (Value.int IntKind.i64 10))))))))
 (R (T.v (Value.int IntKind.i64 9)))))
theorem F_ptcheck_eq (a0 : TPart) (a1 : TMaterials) (R : T → Prop) : sxTop stdC2 Tryz.prog E_ptcheck H_ptcheck 8 40 [encV true yPart a0, encV true yMaterials a1] R = F_ptcheck a0 a1 R := by kernel_rfl
abbrev s_ptcheck : Sh := [(true, yPart), (true, yMaterials)]
abbrev r_ptcheck : Sh := [(false, Sy.int IntKind.i64)]
theorem r_ptcheck_call (y : Sh.den r_ptcheck) (K : Sh.den r_ptcheck → Prop) : callK r_ptcheck (some (Sh.enc r_ptcheck y)) K = K y := callK_enc rfl y K

def sp_ptcheck (x : TPart × TMaterials) : Option T := onlyM x.2 (T.v (Value.int .i64 (partE x.1 x.2)))
noncomputable def g_ptcheck : List T → Option (T) := gS s_ptcheck sp_ptcheck
theorem g_ptcheck_at {a0 : TPart} {a1 : TMaterials} : g_ptcheck [encV true yPart a0, encV true yMaterials a1] = sp_ptcheck (a0, a1) := gS_enc (s := s_ptcheck) rfl (a0, a1) rfl
theorem g_ptcheck_op {u0 u1 u2 u3 u4 u5 u6 u7 u8 u9 u10 u11 u12 u13 u14 u15 u16 u17 u18 u19} : g_ptcheck [T.agg
    [T.v (Value.string u0), T.v (Value.int IntKind.i64 u1),
      T.v (Value.int IntKind.i64 u2), T.v (Value.string u3),
      T.v (Value.string u4),
      T.v (Value.int IntKind.i64 u5),
      T.sl false (List.map yPoint.enc u6),
      T.sl false (List.map yPoint.li.enc u7),
      T.v (Value.string u8),
      T.v (Value.int IntKind.i64 u9),
      T.v (Value.int IntKind.i64 u10),
      T.v (Value.int IntKind.i64 u11),
      T.v (Value.int IntKind.i64 u12),
      T.v (Value.int IntKind.i64 u13),
      T.v (Value.int IntKind.i64 u14),
      T.v (Value.int IntKind.i64 u15),
      T.v (Value.int IntKind.i64 u16),
      T.v (Value.int IntKind.i64 u17)],
  T.agg [T.sl false (List.map yGrade.enc u18), T.sl false (List.map ySection.enc u19)]] = sp_ptcheck ((u0, (u1, (u2, (u3, (u4, (u5, ((u6, u7), (u8, (u9, (u10, ((u11, (u12, u13)), ((u14, (u15, u16)), u17)))))))))))), (u18, u19)) := gS_enc (s := s_ptcheck) rfl ((u0, (u1, (u2, (u3, (u4, (u5, ((u6, u7), (u8, (u9, (u10, ((u11, (u12, u13)), ((u14, (u15, u16)), u17)))))))))))), (u18, u19)) rfl
theorem of_ptcheck (h : ∀ (a0 : TPart) (a1 : TMaterials) (r : T), sp_ptcheck (a0, a1) = some r → BdSh s_ptcheck (a0, a1) → F_ptcheck a0 a1 (fun y => y = r)) : PureFn Tryz.prog 40 g_ptcheck :=
  pureFn_S (E := E_ptcheck) (Hs := H_ptcheck) Eok_ptcheck mixed' plain' (noHeap_of rfl) 8 ⟨_, _, Tryz.func40, rfl⟩ rfl fun x r h1 h2 => by
    obtain ⟨a0, a1⟩ := x
    rw [show Sh.encs s_ptcheck (a0, a1) = [encV true yPart a0, encV true yMaterials a1] from rfl, F_ptcheck_eq]
    exact h a0 a1 r h1 h2

theorem fn_ptcheck : PureFn Tryz.prog 40 g_ptcheck := of_ptcheck fun p m r h hb => by
  obtain ⟨hok, rfl⟩ := onlyM_of h
  replace hok : okM m = true := hok
  clear h hb
  have is : ∀ {n : Int}, partE p m = n → T.v (Value.int IntKind.i64 n) = T.v (Value.int IntKind.i64 (partE p m)) := fun h => by rw [h]
  unfold F_ptcheck
  rw [isId_call]
  refine ifNB (fun h => is (by unfold partE; rw [if_pos (.inl h)])) fun i1 => ?_
  rw [isId_call]
  refine ifNB (fun h => is (by unfold partE; rw [if_pos (.inr h)])) fun i2 => ?_
  have n1 : ¬ (isId p.1 = false ∨ isId (aNode p) = false) := by
    rintro (h | h)
    · rw [i1] at h; cases h
    · rw [show isId (aNode p) = true from i2] at h; cases h
  have r9 : ¬ (1 ≤ p.2.1 ∧ p.2.1 ≤ 1000) → T.v (Value.int IntKind.i64 9) = T.v (Value.int IntKind.i64 (partE p m)) := fun h => is (by unfold partE; rw [if_neg n1, if_pos h])
  refine ifP (fun v1 => ifQ (fun h => r9 (fun h2 => h h2.2)) fun v2 => ?_) fun h => r9 (fun h2 => h h2.1)
  have n2 : ¬ ¬ (1 ≤ p.2.1 ∧ p.2.1 ≤ 1000) := fun h => h ⟨v1, v2⟩
  have w1 : partE p m = if ¬ (aKind p = 1 ∨ aKind p = 2 ∨ aKind p = 3 ∨ aKind p = 4) then 10 else if spareB p = true then 2 else if madeB p m = false then 23 else if aKind p = 1 ∧ ¬ regE (aShape p) = 0 then regE (aShape p) else if (aKind p = 2 ∨ aKind p = 3) ∧ ¬ (1 ≤ aLen p ∧ aLen p ≤ 32768) then 9 else if aKind p = 4 ∧ ¬ (1 ≤ aMass p ∧ aMass p ≤ 1099511627776 ∧ vecIn (aCen p) = true) then 9 else if placeB (aAt p) = false then 9 else 0 := by
    unfold partE; rw [if_neg n1, if_neg n2]
  have spare : ∀ {K : Bool → Prop}, K (spareB p) → callK [(false, Sy.bool)] (g_pspare [encV true yPart p]) K := fun h => callK_some (s := [(false, .bool)]) (y := spareB p) (g_pspare_at ..) h
  have made : ∀ {K : Bool → Prop}, K (madeB p m) → callK [(false, Sy.bool)] (g_pmade [encV true yPart p, encV true yMaterials m]) K := fun h => callK_some (s := [(false, .bool)]) (y := madeB p m) ((g_pmade_at ..).trans (onlyM_ok _ hok)) h
  have place : ∀ {K : Bool → Prop}, K (placeB (aAt p)) → callK [(false, Sy.bool)] (g_vvalid [encV true yPlace (aAt p)]) K := fun h => callK_some (s := [(false, .bool)]) (y := placeB (aAt p)) (g_vvalid_at ..) h
  have near : ∀ {K : Bool → Prop}, K (vecIn (aCen p)) → callK [(false, Sy.bool)] (g_vvalid [encV true yPlace (aCen p, 0)]) K := fun {K} h => callK_some (s := [(false, .bool)]) (y := placeB (aCen p, 0)) (g_vvalid_at ..) (by
    rw [show placeB (aCen p, 0) = vecIn (aCen p) by unfold placeB; rw [show decide (((aCen p, (0 : Int)) : TPlace).2 = numV ((aCen p, (0 : Int)) : TPlace).2) = true from rfl, Bool.and_true]]; exact h)
  have reg : ∀ {K : Int → Prop}, K (regE (aShape p)) → callK [(false, Sy.int IntKind.i64)] (g_rcheck [encV true yShape (aShape p)]) K := fun h => callK_some (s := [(false, .int .i64)]) (g_rcheck_ok _) h
  repeat' first
    | (exfalso; omega)
    | refine spare ?_
    | refine made ?_
    | refine reg ?_
    | refine place ?_
    | refine near ?_
    | refine ifQ (fun h => ?_) (fun h => ?_)
    | refine ifP (fun h => ?_) (fun h => ?_)
    | refine ifNB (fun h => ?_) (fun h => ?_)
    | refine ifB (fun h => ?_) (fun h => ?_)
  all_goals (refine is ?_; clear spare made place near reg is r9; rw [w1]; clear w1 n1 n2 i1 i2; simp_all; try (intros; exfalso; simp only [aLen, aMass] at *; omega))
theorem g_ptcheck_ok {m : TMaterials} (h : okM m = true) (p : TPart) : g_ptcheck [encV true yPart p, encV true yMaterials m] = some (Sh.enc [(false, .int .i64)] (partE p m)) := (g_ptcheck_at ..).trans (onlyM_ok _ h)
/-! ### Mass -/
def gradeD (m : TMaterials) (n : ByteArray) : TGrade := (gradeOf m n).getD noGrade
def secD (m : TMaterials) (n : ByteArray) : TSection := (secOf m n).getD noSec
theorem found_D {α : Type} {no : α} {o : Option α} : (found no o).1 = o.getD no := by cases o <;> rfl
/-- As the program computes it. -/
def massW (p : TPart) (m : TMaterials) : Int := if aKind p = 1 then IntKind.i64.wrap ((IntKind.i64.wrap (IntKind.i64.wrap (regA (aShape p) * aThick p) * (gradeD m (aGrade p)).2.1)).tdiv 2000000) else if aKind p = 2 ∨ aKind p = 3 then IntKind.i64.wrap ((IntKind.i64.wrap (IntKind.i64.wrap ((secD m (aSec p)).2.1 * aLen p) * (gradeD m (aGrade p)).2.1)).tdiv 1000000) else aMass p
def massE (p : TPart) (m : TMaterials) : Int × Int := if partE p m = 0 then (massW p m, 0) else (0, partE p m)
set_option maxRecDepth 100000
noncomputable def E_ptmass : Env := Env.of [(40, .pure g_ptcheck), (68, .pure g_mGrade), (69, .pure g_section), (70, .pure g_rarea2)]
def H_ptmass : FuncId → Hint := fun _ => noHint
theorem Eok_ptmass : EnvOk Tryz.prog E_ptmass := EnvOk.cons (x := .pure g_ptcheck) fn_ptcheck (EnvOk.cons (x := .pure g_mGrade) fn_mGrade (EnvOk.cons (x := .pure g_section) fn_section (EnvOk.cons (x := .pure g_rarea2) fn_rarea2 (EnvOk.nil _))))
def F_ptmass (a0 : TPart) (a1 : TMaterials) (R : T → Prop) : Prop :=
 callK [(false, Sy.int IntKind.i64)]
 (g_ptcheck [encV true yPart a0, encV true yMaterials a1]) fun (y0 : Int) =>
 iteP (!decide (y0 = 0))
 (R (T.tup [T.v (Value.int IntKind.i64 0), T.v (Value.int IntKind.i64 y0)]))
 (callK [(true, yGrade), (false, Sy.bool)]
 (g_mGrade [encV true yMaterials a1, T.v (Value.string a0.snd.snd.snd.snd.fst)])
 fun (y1 : TGrade × Bool) =>
 callK [(true, ySection), (false, Sy.bool)]
 (g_section
 [encV true yMaterials a1, T.v (Value.string a0.snd.snd.snd.snd.snd.snd.snd.fst)])
 fun (y2 : TSection × Bool) =>
 iteP (decide (a0.snd.snd.fst = 1))
 (callK [(false, Sy.int IntKind.i64)]
 (g_rarea2 [encV true yShape a0.snd.snd.snd.snd.snd.snd.fst]) fun (y3 : Int) =>
 reqK true
 (R
 (T.tup
 [T.v
 (Value.int IntKind.i64
 (IntKind.i64.wrap
 ((IntKind.i64.wrap
 (IntKind.i64.wrap (y3 * a0.snd.snd.snd.snd.snd.fst) * y1.fst.snd.fst)).tdiv
 2000000))),
 T.v (Value.int IntKind.i64 0)])))
 (iteP (decide (a0.snd.snd.fst = 2))
 (reqK true
 (R
 (T.tup
 [T.v
 (Value.int IntKind.i64
 (IntKind.i64.wrap
 ((IntKind.i64.wrap
 (IntKind.i64.wrap (y2.fst.snd.fst * a0.snd.snd.snd.snd.snd.snd.snd.snd.fst) *
 y1.fst.snd.fst)).tdiv
 1000000))),
 T.v (Value.int IntKind.i64 0)])))
 (iteP (decide (a0.snd.snd.fst = 3))
 (reqK true
 (R
 (T.tup
 [T.v
 (Value.int IntKind.i64
 (IntKind.i64.wrap
 ((IntKind.i64.wrap
 (IntKind.i64.wrap (y2.fst.snd.fst * a0.snd.snd.snd.snd.snd.snd.snd.snd.fst) *
 y1.fst.snd.fst)).tdiv
 1000000))),
 T.v (Value.int IntKind.i64 0)])))
 (iteP (decide (a0.snd.snd.fst = 4))
 (R
 (T.tup
 [T.v (Value.int IntKind.i64 a0.snd.snd.snd.snd.snd.snd.snd.snd.snd.fst),
 T.v (Value.int IntKind.i64 0)]))
 (R
 (T.tup
 [T.v (Value.int IntKind.i64 a0.snd.snd.snd.snd.snd.snd.snd.snd.snd.fst),
 T.v (Value.int IntKind.i64 0)]))))))
theorem F_ptmass_eq (a0 : TPart) (a1 : TMaterials) (R : T → Prop) : sxTop stdC2 Tryz.prog E_ptmass H_ptmass 8 41 [encV true yPart a0, encV true yMaterials a1] R = F_ptmass a0 a1 R := by kernel_rfl
abbrev s_ptmass : Sh := [(true, yPart), (true, yMaterials)]
abbrev r_ptmass : Sh := [(false, Sy.int IntKind.i64), (false, Sy.int IntKind.i64)]
theorem r_ptmass_call (y : Sh.den r_ptmass) (K : Sh.den r_ptmass → Prop) : callK r_ptmass (some (Sh.enc r_ptmass y)) K = K y := callK_enc rfl y K

def sp_ptmass (x : TPart × TMaterials) : Option T := onlyM x.2 (Sh.enc r_ptmass (massE x.1 x.2))
noncomputable def g_ptmass : List T → Option (T) := gS s_ptmass sp_ptmass
theorem g_ptmass_at {a0 : TPart} {a1 : TMaterials} : g_ptmass [encV true yPart a0, encV true yMaterials a1] = sp_ptmass (a0, a1) := gS_enc (s := s_ptmass) rfl (a0, a1) rfl
theorem g_ptmass_op {u0 u1 u2 u3 u4 u5 u6 u7 u8 u9 u10 u11 u12 u13 u14 u15 u16 u17 u18 u19} : g_ptmass [T.agg
    [T.v (Value.string u0), T.v (Value.int IntKind.i64 u1),
      T.v (Value.int IntKind.i64 u2), T.v (Value.string u3),
      T.v (Value.string u4),
      T.v (Value.int IntKind.i64 u5),
      T.sl false (List.map yPoint.enc u6),
      T.sl false (List.map yPoint.li.enc u7),
      T.v (Value.string u8),
      T.v (Value.int IntKind.i64 u9),
      T.v (Value.int IntKind.i64 u10),
      T.v (Value.int IntKind.i64 u11),
      T.v (Value.int IntKind.i64 u12),
      T.v (Value.int IntKind.i64 u13),
      T.v (Value.int IntKind.i64 u14),
      T.v (Value.int IntKind.i64 u15),
      T.v (Value.int IntKind.i64 u16),
      T.v (Value.int IntKind.i64 u17)],
  T.agg [T.sl false (List.map yGrade.enc u18), T.sl false (List.map ySection.enc u19)]] = sp_ptmass ((u0, (u1, (u2, (u3, (u4, (u5, ((u6, u7), (u8, (u9, (u10, ((u11, (u12, u13)), ((u14, (u15, u16)), u17)))))))))))), (u18, u19)) := gS_enc (s := s_ptmass) rfl ((u0, (u1, (u2, (u3, (u4, (u5, ((u6, u7), (u8, (u9, (u10, ((u11, (u12, u13)), ((u14, (u15, u16)), u17)))))))))))), (u18, u19)) rfl
theorem of_ptmass (h : ∀ (a0 : TPart) (a1 : TMaterials) (r : T), sp_ptmass (a0, a1) = some r → BdSh s_ptmass (a0, a1) → F_ptmass a0 a1 (fun y => y = r)) : PureFn Tryz.prog 41 g_ptmass :=
  pureFn_S (E := E_ptmass) (Hs := H_ptmass) Eok_ptmass mixed' plain' (noHeap_of rfl) 8 ⟨_, _, Tryz.func41, rfl⟩ rfl fun x r h1 h2 => by
    obtain ⟨a0, a1⟩ := x
    rw [show Sh.encs s_ptmass (a0, a1) = [encV true yPart a0, encV true yMaterials a1] from rfl, F_ptmass_eq]
    exact h a0 a1 r h1 h2

theorem fn_ptmass : PureFn Tryz.prog 41 g_ptmass := of_ptmass fun p m r h hb => by
  obtain ⟨hok, rfl⟩ := onlyM_of h
  replace hok : okM m = true := hok
  clear h hb
  have is : ∀ {a b : Int}, massE p m = (a, b) → T.tup [T.v (Value.int IntKind.i64 a), T.v (Value.int IntKind.i64 b)] = Sh.enc r_ptmass (massE p m) := fun h => by rw [h]; rfl
  unfold F_ptmass
  refine callK_some (s := [(false, .int .i64)]) (g_ptcheck_ok hok p) ?_
  refine ifQ (fun h => is (by unfold massE; rw [if_neg h])) fun h => ?_
  refine callK_some (s := [(true, yGrade), (false, .bool)]) (g_mGrade_ok hok _) ?_
  refine callK_some (s := [(true, ySection), (false, .bool)]) (g_section_ok m _) ?_
  have w : massE p m = (massW p m, 0) := by unfold massE; rw [if_pos h]
  have eg : (found noGrade (gradeOf m (aGrade p))).1 = gradeD m (aGrade p) := found_D
  have es : (found noSec (secOf m (aSec p))).1 = secD m (aSec p) := found_D
  refine ifP (fun k1 => ?_) fun k1 => ?_
  · refine callK_some (s := [(false, .int .i64)]) (g_rarea2_ok _) ?_
    refine ⟨rfl, is ?_⟩
    rw [w]; unfold massW; rw [if_pos k1, ← eg]
  refine ifP (fun k2 => ⟨rfl, is ?_⟩) fun k2 => ?_
  · rw [w]; unfold massW; rw [if_neg k1, if_pos (.inl k2), ← eg, ← es]
  refine ifP (fun k3 => ⟨rfl, is ?_⟩) fun k3 => ?_
  · rw [w]; unfold massW; rw [if_neg k1, if_pos (.inr k3), ← eg, ← es]
  have fin : massE p m = (aMass p, 0) := by
    rw [w]; unfold massW; rw [if_neg k1, if_neg]; rintro (h | h)
    · exact k2 h
    · exact k3 h
  exact ifP (fun _ => is fin) fun _ => is fin
theorem g_ptmass_ok {m : TMaterials} (h : okM m = true) (p : TPart) : g_ptmass [encV true yPart p, encV true yMaterials m] = some (Sh.enc [(false, .int .i64), (false, .int .i64)] (massE p m)) := (g_ptmass_at ..).trans (onlyM_ok _ h)
end Go.Pv
set_option linter.unusedSimpArgs false
set_option linter.unusedVariables false
set_option maxRecDepth 100000
namespace Go.Pv
open Go Go.Proofs
set_option maxRecDepth 100000
def A_dParts (a0 : TDesign) (m1 : List (ByteArray × Int)) (m2 : List (ByteArray × Int)) (m3 : List (ByteArray × Int)) (m4 : List (ByteArray × Int)) (a5 : TMaterials) : List T := [tRef a0 m1 m2 m3 m4, T.agg (yMaterials.enc a5)]
noncomputable def E_dParts : Env := Env.of [(40, .pure g_ptcheck), (41, .pure g_ptmass)]
def H_dParts : FuncId → Hint := fun f => match f == 13 with | true => ⟨fun r => match r == 2 with | true => .inv [.val 23 false (.int .i64)] | false => match r == 13 with | true => .inv [.val 10 false (.int .i64), .val 54 false (.int .i64)] | false => .none, fun _ _ => none, fun _ => none⟩ | false => noHint
theorem Eok_dParts : EnvOk Tryz.prog E_dParts := EnvOk.cons (x := .pure g_ptcheck) fn_ptcheck (EnvOk.cons (x := .pure g_ptmass) fn_ptmass (EnvOk.nil _))
def F_dParts (a0 : TDesign) (m1 : List (ByteArray × Int)) (m2 : List (ByteArray × Int)) (m3 : List (ByteArray × Int)) (m4 : List (ByteArray × Int)) (a5 : TMaterials) (R : T → Prop) : Prop :=
 loopK (Int × PUnit)
 (fun (X0 : Int × PUnit → Prop) (s1 : Int × PUnit) =>
 iteP (decide (s1.fst < (↑(List.map yPart.enc a0.snd.snd.fst).length : Int)))
 (rowsK yPart (List.map yPart.enc a0.snd.snd.fst) s1.fst fun (y2 : TPart) =>
 callK [(false, Sy.int IntKind.i64)]
 (g_ptcheck [encV true yPart y2, encV true yMaterials a5]) fun (y3 : Int) =>
 iteP (!decide (y3 = 0)) (R (T.v (Value.int IntKind.i64 y3)))
 (findK TypeDesc.string (Value.string y2.snd.snd.snd.fst) (mpD (encM m1)) false
 (Sy.int IntKind.i64) (R (T.v (Value.int IntKind.i64 8))) fun (i4 : Nat) (y5 : Int) =>
 X0 (IntKind.i64.wrap (s1.fst + 1), ())))
 (loopK (Int × Int × PUnit)
 (fun (X6 : Int × Int × PUnit → Prop) (s7 : Int × Int × PUnit) =>
 iteP (decide (s7.snd.fst < (↑(List.map yPart.enc a0.snd.snd.fst).length : Int)))
 (rowsK yPart (List.map yPart.enc a0.snd.snd.fst) s7.snd.fst fun (y8 : TPart) =>
 callK [(false, Sy.int IntKind.i64), (false, Sy.int IntKind.i64)]
 (g_ptmass [encV true yPart y8, encV true yMaterials a5])
 fun (y9 : TPoint) =>
 iteP (decide (1099511627776 < IntKind.i64.wrap (s7.fst + y9.fst)))
 (R (T.v (Value.int IntKind.i64 13)))
 (X6 (IntKind.i64.wrap (s7.fst + y9.fst), IntKind.i64.wrap (s7.snd.fst + 1), ())))
 (R (T.v (Value.int IntKind.i64 0))))
 (0, 0, ())))
 (0, ())
theorem F_dParts_eq (a0 : TDesign) (m1 : List (ByteArray × Int)) (m2 : List (ByteArray × Int)) (m3 : List (ByteArray × Int)) (m4 : List (ByteArray × Int)) (a5 : TMaterials) (R : T → Prop) : sxTop stdC2 Tryz.prog E_dParts H_dParts 8 13 (A_dParts a0 m1 m2 m3 m4 a5) R = F_dParts a0 m1 m2 m3 m4 a5 R := by kernel_rfl
abbrev r_dParts : Sh := [(false, Sy.int IntKind.i64)]
theorem r_dParts_call (y : Sh.den r_dParts) (K : Sh.den r_dParts → Prop) : callK r_dParts (some (Sh.enc r_dParts y)) K = K y := callK_enc rfl y K

theorem A_dParts_inj (x y : TDesign × MP × MP × MP × MP × TMaterials) (h : A_dParts x.1 x.2.1 x.2.2.1 x.2.2.2.1 x.2.2.2.2.1 x.2.2.2.2.2 = A_dParts y.1 y.2.1 y.2.2.1 y.2.2.2.1 y.2.2.2.2.1 y.2.2.2.2.2) : x = y := by
  obtain ⟨h1, h2⟩ := List.cons.inj h
  have := tRef_inj (x := (x.1, x.2.1, x.2.2.1, x.2.2.2.1, x.2.2.2.2.1)) (y := (y.1, y.2.1, y.2.2.1, y.2.2.2.1, y.2.2.2.2.1)) h1
  have h2 := Sy.enc_inj yMaterials _ _ (T.agg.inj (List.cons.inj h2).1)
  simp only [Prod.mk.injEq] at this
  obtain ⟨e1, e2, e3, e4, e5⟩ := this
  exact Prod.ext e1 (Prod.ext e2 (Prod.ext e3 (Prod.ext e4 (Prod.ext e5 h2))))
def partNodeE (d : TDesign) (m : TMaterials) (p : TPart) : Int := if partE p m = 0 then (if (nodeOf d (aNode p)).isNone = true then 8 else 0) else partE p m
def sumRun (m : TMaterials) : List TPart → Int → Int
  | [], _ => 0
  | p :: l, s => if 1099511627776 < IntKind.i64.wrap (s + (massE p m).1) then 13 else sumRun m l (IntKind.i64.wrap (s + (massE p m).1))
def partsE (d : TDesign) (m : TMaterials) : Int := if firstE (partNodeE d m) d.2.2.1 = 0 then sumRun m d.2.2.1 0 else firstE (partNodeE d m) d.2.2.1
def sp_dParts (x : TDesign × MP × MP × MP × MP × TMaterials) : Option T := match okM x.2.2.2.2.2 with
  | true => onlyT (x.1, x.2.1, x.2.2.1, x.2.2.2.1, x.2.2.2.2.1) (T.v (Value.int .i64 (partsE x.1 x.2.2.2.2.2)))
  | false => none
noncomputable def g_dParts : List T → Option (T) := gA (fun (x : TDesign × (List (ByteArray × Int)) × (List (ByteArray × Int)) × (List (ByteArray × Int)) × (List (ByteArray × Int)) × TMaterials) => A_dParts x.1 x.2.1 x.2.2.1 x.2.2.2.1 x.2.2.2.2.1 x.2.2.2.2.2) sp_dParts
theorem g_dParts_at (a0 : TDesign) (m1 : List (ByteArray × Int)) (m2 : List (ByteArray × Int)) (m3 : List (ByteArray × Int)) (m4 : List (ByteArray × Int)) (a5 : TMaterials) : g_dParts (A_dParts a0 m1 m2 m3 m4 a5) = sp_dParts (a0, m1, m2, m3, m4, a5) := gA_at (A := (fun (x : TDesign × (List (ByteArray × Int)) × (List (ByteArray × Int)) × (List (ByteArray × Int)) × (List (ByteArray × Int)) × TMaterials) => A_dParts x.1 x.2.1 x.2.2.1 x.2.2.2.1 x.2.2.2.2.1 x.2.2.2.2.2)) A_dParts_inj (a0, m1, m2, m3, m4, a5)
theorem of_dParts (h : ∀ (a0 : TDesign) (m1 : List (ByteArray × Int)) (m2 : List (ByteArray × Int)) (m3 : List (ByteArray × Int)) (m4 : List (ByteArray × Int)) (a5 : TMaterials) (r : T), sp_dParts (a0, m1, m2, m3, m4, a5) = some r → (∀ t ∈ A_dParts a0 m1 m2 m3 m4 a5, Bd t) → F_dParts a0 m1 m2 m3 m4 a5 (fun y => y = r)) : PureFn Tryz.prog 13 g_dParts :=
  pureFn_A (E := E_dParts) (Hs := H_dParts) Eok_dParts mixed' plain' (noHeap_of rfl) 8 ⟨_, _, Tryz.func13, rfl⟩ fun x r h1 h2 => by
    rw [F_dParts_eq]
    exact h x.1 x.2.1 x.2.2.1 x.2.2.2.1 x.2.2.2.2.1 x.2.2.2.2.2 r h1 h2

theorem fn_dParts : PureFn Tryz.prog 13 g_dParts := of_dParts fun d m1 m2 m3 m4 m r h hb => by
  unfold sp_dParts at h
  split at h
  case h_2 => cases h
  rename_i hok
  replace hok : okM m = true := hok
  obtain ⟨hx, hs, rfl⟩ := onlyT_of h
  simp only [Prod.mk.injEq, true_and] at hx
  obtain ⟨rfl, rfl, rfl, rfl⟩ := hx
  replace hs : SmallD d := hs
  clear h hb
  have is : ∀ {n : Int}, partsE d m = n → T.v (Value.int IntKind.i64 n) = T.v (Value.int IntKind.i64 (partsE d m)) := fun h => by rw [h]
  unfold F_dParts
  refine first_loop (r := yPart) (partNodeE d m) hs.p (fun X s y hy hgo hbad => ?_) fun h0 => ?_
  · have bad : ∀ {n : Int}, n ≠ 0 → partNodeE d m y = n → T.v (Value.int IntKind.i64 n) = T.v (Value.int IntKind.i64 (partsE d m)) := fun hn h => by
      have h1 := hbad (by rw [h]; exact hn)
      refine is ?_
      unfold partsE
      rw [if_neg (by rw [h1, h]; exact hn), h1, h]
    refine callK_some (s := [(false, .int .i64)]) (g_ptcheck_ok hok y) ?_
    refine ifQ (fun h => bad h (by unfold partNodeE; rw [if_neg h])) fun h => ?_
    refine ixK (fun hn => bad (by decide) ?_) fun i j hj hn => hgo ?_
    · have hn : nodeOf d (aNode y) = none := hn
      unfold partNodeE; rw [if_pos h, hn]; rfl
    · have hn : nodeOf d (aNode y) = some d.2.1[j] := hn
      unfold partNodeE; rw [if_pos h, hn]; rfl
  · have w : partsE d m = sumRun m d.2.2.1 0 := by unfold partsE; rw [if_pos h0]
    clear h0
    have hl := hs.p
    generalize d.2.2.1 = l at w hl ⊢
    refine loopK_ix l.length (fun k s => s.2.1 = (k : Int) ∧ sumRun m (l.drop k) s.1 = partsE d m) ⟨rfl, by rw [w]; rfl⟩ ?_
    rintro X k ⟨s, i, u⟩ hk ⟨rfl, he⟩ hX
    dsimp only at he ⊢
    refine ifP (fun hlt => ?_) fun hge => ?_
    · rw [List.length_map] at hlt
      have hlt : k < l.length := by omega
      rw [rowsK_at (r := yPart) hlt]
      rw [List.drop_eq_getElem_cons hlt, sumRun] at he
      refine callK_some (s := [(false, .int .i64), (false, .int .i64)]) (g_ptmass_ok hok _) ?_
      refine ifP (fun h => is (by rw [← he, if_pos h])) fun h => ?_
      rw [if_neg h] at he
      refine hX _ hlt ⟨?_, he⟩
      show IntKind.i64.wrap ((k : Int) + 1) = _
      rw [wrap_id] <;> omega
    · rw [List.length_map] at hge
      have : k = l.length := by omega
      subst this
      rw [List.drop_length, sumRun] at he
      exact is he.symm
end Go.Pv
set_option linter.unusedSimpArgs false
set_option linter.unusedVariables false
set_option maxRecDepth 100000
namespace Go.Pv
open Go Go.Proofs
set_option maxRecDepth 100000
def A_dPacks (a0 : TDesign) (m1 : List (ByteArray × Int)) (m2 : List (ByteArray × Int)) (m3 : List (ByteArray × Int)) (m4 : List (ByteArray × Int)) : List T := [tRef a0 m1 m2 m3 m4]
noncomputable def E_dPacks : Env := Env.of [(38, .pure g_isId), (33, .pure g_ri), (43, .pure g_strF), (42, .pure g_isBlk), (39, .pure g_tclimb), (44, .new g_order)]
def H_dPacks : FuncId → Hint := fun f => match f == 15 with | true => ⟨fun r => match r == 4 with | true => .inv [.own 3 2 (.pr (.int .i64) (.int .i64)), .map 0 .str false .bool, .val 29 false (.int .i64)] | false => match r == 15 with | true => .inv [.val 76 false (.int .i64), .map 0 .str false .bool] | false => match r == 31 with | true => .inv [.own 3 2 (.pr (.int .i64) (.int .i64)), .val 147 false (.int .i64)] | false => .none, fun _ _ => none, fun _ => none⟩ | false => noHint
theorem Eok_dPacks : EnvOk Tryz.prog E_dPacks := EnvOk.cons (x := .pure g_isId) fn_isId (EnvOk.cons (x := .pure g_ri) fn_ri (EnvOk.cons (x := .pure g_strF) fn_strF (EnvOk.cons (x := .pure g_isBlk) fn_isBlk (EnvOk.cons (x := .pure g_tclimb) fn_tclimb (EnvOk.cons (x := .new g_order) fn_order (EnvOk.nil _))))))
def F_dPacks (a0 : TDesign) (m1 : List (ByteArray × Int)) (m2 : List (ByteArray × Int)) (m3 : List (ByteArray × Int)) (m4 : List (ByteArray × Int)) (R : T → Prop) : Prop :=
 decMK Sy.str false Sy.bool [] fun (y0 : List (ByteArray × Bool)) =>
 loopK (List TPoint × List (ByteArray × Bool) × Int × PUnit)
 (fun (X1 : List TPoint × List (ByteArray × Bool) × Int × PUnit → Prop)
 (s2 : List TPoint × List (ByteArray × Bool) × Int × PUnit) =>
 iteP (decide (s2.snd.snd.fst < (↑(List.map yPackage.enc a0.snd.snd.snd.snd.fst).length : Int)))
 (rowsK yPackage (List.map yPackage.enc a0.snd.snd.snd.snd.fst) s2.snd.snd.fst
 fun (y3 : TPackage) =>
 callK [(false, Sy.bool)] (g_isId [T.v (Value.string y3.fst)]) fun (y4 : Bool) =>
 iteP (!y4) (R (T.v (Value.int IntKind.i64 6)))
 (callK [(false, Sy.bool)]
 (g_isBlk
 [T.ref
 [T.ref
 [T.v (Value.string a0.fst), T.sl false (List.map yNode.enc a0.snd.fst),
 T.sl false (List.map yPart.enc a0.snd.snd.fst),
 T.sl false (List.map ySeam.enc a0.snd.snd.snd.fst),
 T.sl false (List.map yPackage.enc a0.snd.snd.snd.snd.fst),
 T.sl false (List.map yNeed.enc a0.snd.snd.snd.snd.snd)],
 T.mp (encM m1), T.mp (encM m2), T.mp (encM m3),
 T.mp (encM m4)],
 T.v (Value.string y3.snd.fst)])
 fun (y5 : Bool) =>
 iteP (!y5) (R (T.v (Value.int IntKind.i64 8)))
 (iteP (decide (y3.snd.snd.snd.fst < 1)) (R (T.v (Value.int IntKind.i64 9)))
 (iteP (decide (10000 < y3.snd.snd.snd.fst)) (R (T.v (Value.int IntKind.i64 9)))
 (callK [(false, Sy.any)]
 (g_strF [T.sl false (List.map Sy.str.enc y3.snd.snd.fst)])
 fun (y6 : T) =>
 callK [(false, Sy.bool)]
 (g_ri
 [T.v
 (Value.int IntKind.i64
 (↑(List.map Sy.str.enc y3.snd.snd.fst).length : Int)),
 y6])
 fun (y7 : Bool) =>
 iteP (!y7) (R (T.v (Value.int IntKind.i64 11)))
 (callK [(false, Sy.any)]
 (g_strF [T.sl false (List.map Sy.str.enc y3.snd.snd.snd.snd)])
 fun (y8 : T) =>
 callK [(false, Sy.bool)]
 (g_ri
 [T.v
 (Value.int IntKind.i64
 (↑(List.map Sy.str.enc y3.snd.snd.snd.snd).length : Int)),
 y8])
 fun (y9 : Bool) =>
 iteP (!y9) (R (T.v (Value.int IntKind.i64 11)))
 (decMK Sy.str false Sy.bool
 (List.map (encE Sy.str false Sy.bool) s2.snd.fst)
 fun (y10 : List (ByteArray × Bool)) =>
 loopK (Int × List (ByteArray × Bool) × PUnit)
 (fun (X11 : Int × List (ByteArray × Bool) × PUnit → Prop)
 (s12 : Int × List (ByteArray × Bool) × PUnit) =>
 iteP
 (decide
 (s12.fst < (↑(List.map Sy.str.enc y3.snd.snd.fst).length : Int)))
 (rowsK Sy.str (List.map Sy.str.enc y3.snd.snd.fst) s12.fst
 fun (y13 : ByteArray) =>
 findK TypeDesc.string (Value.string y13)
 (mpD (encM m2)) false (Sy.int IntKind.i64)
 (R (T.v (Value.int IntKind.i64 8)))
 fun (i14 : Nat) (y15 : Int) =>
 rowsK yPart (List.map yPart.enc a0.snd.snd.fst) y15
 fun (y16 : TPart) =>
 iteP (!decide (y16.snd.snd.fst = 4))
 (iteP (!decide (y16.snd.snd.fst = 3))
 (R (T.v (Value.int IntKind.i64 10)))
 (rowsK yPart (List.map yPart.enc a0.snd.snd.fst)
 y15 fun (y17 : TPart) =>
 callK [(false, Sy.str.li), (false, Sy.bool)]
 (g_tclimb
 [T.ref
 [T.ref
 [T.v (Value.string a0.fst),
 T.sl false
 (List.map yNode.enc a0.snd.fst),
 T.sl false
 (List.map yPart.enc a0.snd.snd.fst),
 T.sl false
 (List.map ySeam.enc a0.snd.snd.snd.fst),
 T.sl false
 (List.map yPackage.enc
 a0.snd.snd.snd.snd.fst),
 T.sl false
 (List.map yNeed.enc
 a0.snd.snd.snd.snd.snd)],
 T.mp (encM m1), T.mp (encM m2),
 T.mp (encM m3), T.mp (encM m4)],
 T.v (Value.string y17.snd.snd.snd.fst)])
 fun (y18 : List ByteArray × Bool) =>
 iteP
 (decide
 ((↑(List.map Sy.str.enc y18.fst).length : Int) = 0))
 (R (T.v (Value.int IntKind.i64 2)))
 (rowsK Sy.str (List.map Sy.str.enc y18.fst)
 (IntKind.i64.wrap
 ((↑(List.map Sy.str.enc y18.fst).length : Int) - 1))
 fun (y19 : ByteArray) =>
 iteP (!decide (y19 = y3.snd.fst))
 (R (T.v (Value.int IntKind.i64 2)))
 (findK TypeDesc.string (Value.string y13)
 (List.map (encE Sy.str false Sy.bool)
 s12.snd.fst)
 false Sy.bool
 (optK (Option (Nat × D))
 (findD TypeDesc.string (Value.string y13)
 (List.map
 (encE Sy.str false Sy.bool)
 s12.snd.fst)
 0)
 fun (y24 : Option (Nat × D)) =>
 decMK Sy.str false Sy.bool
 (setEnt
 (List.map
 (encE Sy.str false Sy.bool)
 s12.snd.fst)
 y24 (Value.string y13)
 (D.p (T.v (Value.bool true))))
 fun (y25 : List (ByteArray × Bool)) =>
 X11 (IntKind.i64.wrap (s12.fst + 1), y25, ()))
 fun (i20 : Nat) (y21 : Bool) =>
 iteP y21
 (R (T.v (Value.int IntKind.i64 7)))
 (optK (Option (Nat × D))
 (findD TypeDesc.string
 (Value.string y13)
 (List.map
 (encE Sy.str false Sy.bool)
 s12.snd.fst)
 0)
 fun (y22 : Option (Nat × D)) =>
 decMK Sy.str false Sy.bool
 (setEnt
 (List.map
 (encE Sy.str false Sy.bool)
 s12.snd.fst)
 y22 (Value.string y13)
 (D.p (T.v (Value.bool true))))
 fun (y23 : List (ByteArray × Bool)) =>
 X11
 (IntKind.i64.wrap (s12.fst + 1), y23,
 ()))))))
 (rowsK yPart (List.map yPart.enc a0.snd.snd.fst) y15
 fun (y26 : TPart) =>
 callK [(false, Sy.str.li), (false, Sy.bool)]
 (g_tclimb
 [T.ref
 [T.ref
 [T.v (Value.string a0.fst),
 T.sl false
 (List.map yNode.enc a0.snd.fst),
 T.sl false
 (List.map yPart.enc a0.snd.snd.fst),
 T.sl false
 (List.map ySeam.enc a0.snd.snd.snd.fst),
 T.sl false
 (List.map yPackage.enc
 a0.snd.snd.snd.snd.fst),
 T.sl false
 (List.map yNeed.enc a0.snd.snd.snd.snd.snd)],
 T.mp (encM m1), T.mp (encM m2),
 T.mp (encM m3), T.mp (encM m4)],
 T.v (Value.string y26.snd.snd.snd.fst)])
 fun (y27 : List ByteArray × Bool) =>
 iteP
 (decide
 ((↑(List.map Sy.str.enc y27.fst).length : Int) = 0))
 (R (T.v (Value.int IntKind.i64 2)))
 (rowsK Sy.str (List.map Sy.str.enc y27.fst)
 (IntKind.i64.wrap
 ((↑(List.map Sy.str.enc y27.fst).length : Int) - 1))
 fun (y28 : ByteArray) =>
 iteP (!decide (y28 = y3.snd.fst))
 (R (T.v (Value.int IntKind.i64 2)))
 (findK TypeDesc.string (Value.string y13)
 (List.map (encE Sy.str false Sy.bool)
 s12.snd.fst)
 false Sy.bool
 (optK (Option (Nat × D))
 (findD TypeDesc.string (Value.string y13)
 (List.map
 (encE Sy.str false Sy.bool)
 s12.snd.fst)
 0)
 fun (y33 : Option (Nat × D)) =>
 decMK Sy.str false Sy.bool
 (setEnt
 (List.map
 (encE Sy.str false Sy.bool)
 s12.snd.fst)
 y33 (Value.string y13)
 (D.p (T.v (Value.bool true))))
 fun (y34 : List (ByteArray × Bool)) =>
 X11 (IntKind.i64.wrap (s12.fst + 1), y34, ()))
 fun (i29 : Nat) (y30 : Bool) =>
 iteP y30
 (R (T.v (Value.int IntKind.i64 7)))
 (optK (Option (Nat × D))
 (findD TypeDesc.string (Value.string y13)
 (List.map
 (encE Sy.str false Sy.bool)
 s12.snd.fst)
 0)
 fun (y31 : Option (Nat × D)) =>
 decMK Sy.str false Sy.bool
 (setEnt
 (List.map
 (encE Sy.str false Sy.bool)
 s12.snd.fst)
 y31 (Value.string y13)
 (D.p (T.v (Value.bool true))))
 fun (y32 : List (ByteArray × Bool)) =>
 X11
 (IntKind.i64.wrap (s12.fst + 1), y32, ()))))))
 (decK yPoint (List.map yPoint.enc s2.fst)
 fun (y35 : List TPoint) =>
 loopK (List TPoint × Int × PUnit)
 (fun (X36 : List TPoint × Int × PUnit → Prop)
 (s37 : List TPoint × Int × PUnit) =>
 iteP
 (decide
 (s37.snd.fst <
 (↑(List.map Sy.str.enc y3.snd.snd.snd.snd).length : Int)))
 (rowsK Sy.str
 (List.map Sy.str.enc y3.snd.snd.snd.snd) s37.snd.fst
 fun (y38 : ByteArray) =>
 iteP (decide (y38 = y3.fst))
 (R (T.v (Value.int IntKind.i64 2)))
 (findK TypeDesc.string (Value.string y38)
 (mpD (encM m4)) false (Sy.int IntKind.i64)
 (R (T.v (Value.int IntKind.i64 8)))
 fun (i39 : Nat) (y40 : Int) =>
 reqK
 (decide
 (((List.map yPoint.enc s37.fst).length + 1) * 16 ≤
 140737488355328) &&
 decide
 ((List.map yPoint.enc s37.fst).length + 1 ≤
 140737488355328))
 (decK yPoint
 (List.map yPoint.enc s37.fst ++
 [[T.v (Value.int IntKind.i64 y40),
 T.v
 (Value.int IntKind.i64 s2.snd.snd.fst)]])
 fun (y41 : List TPoint) =>
 X36 (y41, IntKind.i64.wrap (s37.snd.fst + 1), ()))))
 (decK yPoint (List.map yPoint.enc s37.fst)
 fun (y42 : List TPoint) =>
 decMK Sy.str false Sy.bool
 (List.map (encE Sy.str false Sy.bool)
 s12.snd.fst)
 fun (y43 : List (ByteArray × Bool)) =>
 X1 (y42, y43, IntKind.i64.wrap (s2.snd.snd.fst + 1), ())))
 (y35, 0, ())))
 (0, y10, ()))))))))
 (callK [(false, (Sy.int IntKind.i64).li), (false, Sy.int IntKind.i64)]
 (g_order
 [T.v
 (Value.int IntKind.i64 (↑(List.map yPackage.enc a0.snd.snd.snd.snd.fst).length : Int)),
 T.sl false (List.map yPoint.enc s2.fst)])
 fun (y44 : List Int × Int) =>
 iteP (!decide (y44.snd = 0)) (R (T.v (Value.int IntKind.i64 20)))
 (R (T.v (Value.int IntKind.i64 0)))))
 ([], y0, 0, ())
theorem F_dPacks_eq (a0 : TDesign) (m1 : List (ByteArray × Int)) (m2 : List (ByteArray × Int)) (m3 : List (ByteArray × Int)) (m4 : List (ByteArray × Int)) (R : T → Prop) : sxTop stdC2 Tryz.prog E_dPacks H_dPacks 8 15 (A_dPacks a0 m1 m2 m3 m4) R = F_dPacks a0 m1 m2 m3 m4 R := by kernel_rfl
abbrev r_dPacks : Sh := [(false, Sy.int IntKind.i64)]
theorem r_dPacks_call (y : Sh.den r_dPacks) (K : Sh.den r_dPacks → Prop) : callK r_dPacks (some (Sh.enc r_dPacks y)) K = K y := callK_enc rfl y K

theorem A_dPacks_inj (x y : TDesign × MP × MP × MP × MP) (h : A_dPacks x.1 x.2.1 x.2.2.1 x.2.2.2.1 x.2.2.2.2 = A_dPacks y.1 y.2.1 y.2.2.1 y.2.2.2.1 y.2.2.2.2) : x = y := tRef_inj (List.cons.inj h).1
abbrev kParts (k : TPackage) : List ByteArray := k.2.2.1
abbrev kAfter (k : TPackage) : List ByteArray := k.2.2.2.2
abbrev kHours (k : TPackage) : Int := k.2.2.2.1
def headE (d : TDesign) (k : TPackage) : Int := if isId k.1 = false then 6 else if isBlk d k.2.1 = false then 8 else if kHours k < 1 ∨ 10000 < kHours k then 9 else if asc (kParts k) = false ∨ asc (kAfter k) = false then 11 else 0
/-- The parts that a package installs, one after the other. -/
def instE (d : TDesign) (b : ByteArray) : List ByteArray → List ByteArray → Int × List ByteArray
  | [], S => (0, S)
  | id :: l, S => match partOf d id with
    | none => (8, S)
    | some p => if ¬ aKind p = 4 ∧ ¬ aKind p = 3 then (10, S) else if (up d (aNode p)).1.getLast? = some b then (if memB S id = true then (7, S) else instE d b l (id :: S)) else (2, S)
/-- The packages that come ahead of the i-th one. -/
def aftE (d : TDesign) (k : ByteArray) (i : Int) : List ByteArray → List TPoint → Int × List TPoint
  | [], E => (0, E)
  | id :: l, E => if id = k then (2, E) else match getL (ixs (ids d.2.2.2.2.1)) id with
    | none => (8, E)
    | some j => aftE d k i l (E ++ [(j, i)])
def packRun (d : TDesign) : List TPackage → Int → List TPoint → List ByteArray → Int × List TPoint
  | [], _, E, _ => (0, E)
  | k :: l, i, E, S => if ¬ headE d k = 0 then (headE d k, E) else if ¬ (instE d k.2.1 (kParts k) S).1 = 0 then ((instE d k.2.1 (kParts k) S).1, E) else if ¬ (aftE d k.1 i (kAfter k) E).1 = 0 then ((aftE d k.1 i (kAfter k) E).1, E) else
    packRun d l (i + 1) (aftE d k.1 i (kAfter k) E).2 (instE d k.2.1 (kParts k) S).2
def packsE (d : TDesign) : Int := if (packRun d d.2.2.2.2.1 0 [] []).1 = 0 then (if (orderE d.2.2.2.2.1.length (packRun d d.2.2.2.2.1 0 [] []).2).2 = 0 then 0 else 20) else (packRun d d.2.2.2.2.1 0 [] []).1
/-- The lists in the packages are of a size that fits. -/
def okPacks (d : TDesign) : Bool := d.2.2.2.2.1.all (fun k => decide ((kParts k).length ≤ 140737488355328) && decide ((kAfter k).length ≤ 140737488355328)) && decide (d.2.2.2.2.1.length ≤ 64)
/-! ### Rising lists have no identifier twice -/
theorem sless_lt (a b : ByteArray) : sless a b = true ↔ a.data.toList < b.data.toList := by
  unfold sless; rw [bytesLess_eq, decide_eq_true_iff]
theorem asc_two {a b : ByteArray} (h : (!(sless b a || decide (b = a))) = true) : a.data.toList < b.data.toList := by
  simp only [Bool.not_eq_true', Bool.or_eq_false_iff, decide_eq_false_iff_not] at h
  refine Classical.byContradiction fun hc => h.2 ?_
  have h1 : ¬ b.data.toList < a.data.toList := fun h' => by rw [(sless_lt b a).2 h'] at h; exact absurd h.1 (by decide)
  have e : b.data.toList = a.data.toList := List.le_antisymm (List.not_lt.1 hc) (List.not_lt.1 h1)
  exact ByteArray.ext (Array.ext' e)
theorem asc_pair : ∀ {l : List ByteArray}, asc l = true → l.Pairwise fun a b => a.data.toList < b.data.toList
  | [], _ => List.Pairwise.nil
  | [a], _ => by simp
  | a :: b :: l, h => by
    rw [asc, Bool.and_eq_true] at h
    have h1 := asc_two h.1
    have ih := asc_pair h.2
    refine List.pairwise_cons.2 ⟨fun x hx => ?_, ih⟩
    rcases List.mem_cons.1 hx with rfl | hx
    · exact h1
    · exact List.lt_trans h1 ((List.pairwise_cons.1 ih).1 x hx)
theorem asc_nodup {l : List ByteArray} (h : asc l = true) : l.Nodup := by
  refine (asc_pair h).imp fun {a b} hab e => ?_
  subst e
  exact List.lt_irrefl _ hab
theorem len_sub : ∀ {l m : List ByteArray}, l.Nodup → (∀ x ∈ l, x ∈ m) → l.length ≤ m.length
  | [], _, _, _ => Nat.zero_le _
  | a :: l, m, h, hm => by
    obtain ⟨h1, h2⟩ := List.pairwise_cons.1 h
    have h3 : l.length ≤ (m.filter fun x => decide (x ≠ a)).length := len_sub h2 fun x hx => List.mem_filter.2 ⟨hm x (List.mem_cons_of_mem _ hx), decide_eq_true fun e => h1 x hx e.symm⟩
    have h4 : (m.filter fun x => decide (x ≠ a)).length < m.length := List.length_filter_lt_length_iff_exists.2 ⟨a, hm a List.mem_cons_self, by simp⟩
    rw [List.length_cons]; omega
def sp_dPacks (x : TDesign × MP × MP × MP × MP) : Option T := match okPacks x.1 with
  | true => onlyT x (T.v (Value.int .i64 (packsE x.1)))
  | false => none
noncomputable def g_dPacks : List T → Option (T) := gA (fun (x : TDesign × (List (ByteArray × Int)) × (List (ByteArray × Int)) × (List (ByteArray × Int)) × List (ByteArray × Int)) => A_dPacks x.1 x.2.1 x.2.2.1 x.2.2.2.1 x.2.2.2.2) sp_dPacks
theorem g_dPacks_at (a0 : TDesign) (m1 : List (ByteArray × Int)) (m2 : List (ByteArray × Int)) (m3 : List (ByteArray × Int)) (m4 : List (ByteArray × Int)) : g_dPacks (A_dPacks a0 m1 m2 m3 m4) = sp_dPacks (a0, m1, m2, m3, m4) := gA_at (A := (fun (x : TDesign × (List (ByteArray × Int)) × (List (ByteArray × Int)) × (List (ByteArray × Int)) × List (ByteArray × Int)) => A_dPacks x.1 x.2.1 x.2.2.1 x.2.2.2.1 x.2.2.2.2)) A_dPacks_inj (a0, m1, m2, m3, m4)
theorem of_dPacks (h : ∀ (a0 : TDesign) (m1 : List (ByteArray × Int)) (m2 : List (ByteArray × Int)) (m3 : List (ByteArray × Int)) (m4 : List (ByteArray × Int)) (r : T), sp_dPacks (a0, m1, m2, m3, m4) = some r → (∀ t ∈ A_dPacks a0 m1 m2 m3 m4, Bd t) → F_dPacks a0 m1 m2 m3 m4 (fun y => y = r)) : PureFn Tryz.prog 15 g_dPacks :=
  pureFn_A (E := E_dPacks) (Hs := H_dPacks) Eok_dPacks mixed' plain' (noHeap_of rfl) 8 ⟨_, _, Tryz.func15, rfl⟩ fun x r h1 h2 => by
    rw [F_dPacks_eq]
    exact h x.1 x.2.1 x.2.2.1 x.2.2.2.1 x.2.2.2.2 r h1 h2

theorem ixKg {α : Type} {id : ByteArray} {l : List (ByteArray × α)} {A : Prop} {B : Nat → Int → Prop} (hA : getL (ixs (ids l)) id = none → l.find? (fun s => decide (s.1 = id)) = none → A) (hB : ∀ i k (h : k < l.length), getL (ixs (ids l)) id = some (k : Int) → l.find? (fun s => decide (s.1 = id)) = some l[k] → B i (k : Int)) :
    findK TypeDesc.string (Value.string id) (mpD (encM (ixs (ids l)))) false (Sy.int IntKind.i64) A B := by
  rw [mpD_encM]
  refine findK_S (r := .int .i64) (fun h => ?_) fun i v h => ?_
  · rcases getL_ixs id l with ⟨h1, h2⟩ | ⟨k, hk, h1, _⟩
    · exact hA h1 h2
    · rw [h] at h1; cases h1
  · rcases getL_ixs id l with ⟨h1, _⟩ | ⟨k, hk, h1, h2⟩
    · rw [h] at h1; cases h1
    · rw [h] at h1; cases h1; exact hB i k hk h h2
/-- The last one of a list, by its place. -/
theorem lastK {l : List ByteArray} {b : ByteArray} {A : Prop} (hl : l.length ≤ 140737488355328) (hyes : l.getLast? = some b → A) (hno : ¬ l.getLast? = some b → A) {R2 : Prop} (hR2 : ¬ l.getLast? = some b → R2) {K : Prop} (hK : l.getLast? = some b → K) :
    iteP (decide (((List.map Sy.str.enc l).length : Int) = 0)) R2 (rowsK Sy.str (List.map Sy.str.enc l) (IntKind.i64.wrap (((List.map Sy.str.enc l).length : Int) - 1)) fun (y : ByteArray) => iteP (!decide (y = b)) R2 K) := by
  rw [List.length_map]
  refine ifP (fun h => hR2 ?_) fun h => ?_
  · have : l = [] := List.length_eq_zero_iff.1 (by omega)
    rw [this]; simp
  · have h1 : l.length - 1 < l.length := by omega
    rw [wrap_id _ (by omega) (by omega), show ((l.length : Int) - 1) = ((l.length - 1 : Nat) : Int) by omega, rowsK_at (r := .str) h1]
    have e : l.getLast? = some l[l.length - 1] := by rw [List.getLast?_eq_getElem?, List.getElem?_eq_getElem h1]
    refine ifQ (fun h => hR2 ?_) fun h => hK ?_
    · rw [e]; intro h'; exact h (Option.some.inj h')
    · rw [e]; exact congrArg some h
/-- The installed parts: what the map holds. -/
theorem seenK {es : List (ByteArray × Bool)} {S : List ByteArray} {id : ByteArray} {R7 : Prop} {K : List (ByteArray × Bool) → Prop} (hS : Seen es (fun x => x ∈ S)) (h7 : id ∈ S → R7) (hK : ∀ es', id ∉ S → Seen es' (fun x => x ∈ id :: S) → K es') :
    findK TypeDesc.string (Value.string id) (List.map (encE Sy.str false Sy.bool) es) false Sy.bool
      (optK (Option (Nat × D)) (findD TypeDesc.string (Value.string id) (List.map (encE Sy.str false Sy.bool) es) 0) fun (y24 : Option (Nat × D)) =>
        decMK Sy.str false Sy.bool (setEnt (List.map (encE Sy.str false Sy.bool) es) y24 (Value.string id) (D.p (T.v (Value.bool true)))) fun (y25 : List (ByteArray × Bool)) => K y25)
      fun (i20 : Nat) (y21 : Bool) => iteP y21 R7
        (optK (Option (Nat × D)) (findD TypeDesc.string (Value.string id) (List.map (encE Sy.str false Sy.bool) es) 0) fun (y22 : Option (Nat × D)) =>
          decMK Sy.str false Sy.bool (setEnt (List.map (encE Sy.str false Sy.bool) es) y22 (Value.string id) (D.p (T.v (Value.bool true)))) fun (y23 : List (ByteArray × Bool)) => K y23) := by
  refine findK_S (r := .bool) (fun hno => ?_) fun j b hb => ?_
  · refine ins_S (r := .bool) rfl (es := es) (k := id) (v := true) (hK _ (fun h => ?_) ((hS.ins id).congr fun x => ?_))
    · have := (hS.2 id).2 h
      rw [hno] at this; cases this
    · rw [List.mem_cons]; exact ⟨fun h => h.symm.imp_left Eq.symm, fun h => h.symm.imp_right Eq.symm⟩
  · have := hS.1 _ _ hb
    subst this
    rw [iteP_t]
    exact h7 ((hS.2 _).1 hb)
theorem fn_dPacks : PureFn Tryz.prog 15 g_dPacks := of_dPacks fun d m1 m2 m3 m4 r h hb => by
  unfold sp_dPacks at h
  split at h
  case h_2 => cases h
  rename_i hok
  replace hok : okPacks d = true := hok
  obtain ⟨hx, hs, rfl⟩ := onlyT_of h
  simp only [Prod.mk.injEq, true_and] at hx
  obtain ⟨rfl, rfl, rfl, rfl⟩ := hx
  replace hs : SmallD d := hs
  clear h hb
  simp only [okPacks, Bool.and_eq_true, decide_eq_true_eq, List.all_eq_true] at hok
  obtain ⟨hkp, hka⟩ := hok
  have hkq := fun k hk => (hkp k hk).2
  replace hkp := fun k hk => (hkp k hk).1
  have hlk := hs.k
  have is : ∀ {n : Int}, packsE d = n → T.v (Value.int IntKind.i64 n) = T.v (Value.int IntKind.i64 (packsE d)) := fun h => by rw [h]
  unfold F_dPacks
  refine decMK_eS (r := .bool) rfl [] _ ?_
  refine loopK_ix d.2.2.2.2.1.length (fun k s => ∃ S, s.2.2.1 = (k : Int) ∧ Seen s.2.1 (fun x => x ∈ S) ∧ s.1.length ≤ 64 * k ∧ packRun d (d.2.2.2.2.1.drop k) k s.1 S = packRun d d.2.2.2.2.1 0 [] []) ⟨[], rfl, Seen.nil.congr (by simp), by simp, rfl⟩ ?_
  rintro X k ⟨E, es, i, u⟩ hk ⟨S, rfl, hseen, hlen, hr⟩ hX
  dsimp only at hseen hlen hr ⊢
  refine ifP (fun hlt => ?_) fun hge => ?_
  · rw [List.length_map] at hlt
    have hlt : k < d.2.2.2.2.1.length := by omega
    rw [rowsK_at (r := yPackage) hlt]
    rw [List.drop_eq_getElem_cons hlt] at hr
    have hmem := List.getElem_mem hlt
    have hp1 := hkp _ hmem
    have hp2 := hkq _ hmem
    generalize hy : d.2.2.2.2.1[k] = y at hr hp1 hp2 ⊢
    rw [packRun] at hr
    have bad : ∀ {n : Int}, n ≠ 0 → (packRun d d.2.2.2.2.1 0 [] []).1 = n → T.v (Value.int IntKind.i64 n) = T.v (Value.int IntKind.i64 (packsE d)) := fun hn h => by
      refine is ?_
      unfold packsE
      rw [if_neg (by rw [h]; exact hn), h]
    have badH : ∀ {n : Int}, n ≠ 0 → headE d y = n → T.v (Value.int IntKind.i64 n) = T.v (Value.int IntKind.i64 (packsE d)) := fun hn h => by
      refine bad hn ?_
      rw [if_pos (by rw [h]; exact hn)] at hr
      rw [← hr]; exact h
    rw [isId_call]
    refine ifNB (fun h => badH (by decide) (by unfold headE; rw [if_pos h])) fun i1 => ?_
    refine callK_some (s := [(false, .bool)]) (g_isBlk_ok hs _) ?_
    refine ifNB (fun h => badH (by decide) (by unfold headE; rw [if_neg (by rw [i1]; decide), if_pos h])) fun i2 => ?_
    have n1 : ¬ isId y.1 = false := by rw [i1]; decide
    have n2 : ¬ isBlk d y.2.1 = false := by rw [i2]; decide
    refine ifP (fun h => badH (by decide) (by unfold headE; rw [if_neg n1, if_neg n2, if_pos (.inl h)])) fun h3 => ?_
    refine ifP (fun h => badH (by decide) (by unfold headE; rw [if_neg n1, if_neg n2, if_pos (.inr h)])) fun h4 => ?_
    have n3 : ¬ (kHours y < 1 ∨ 10000 < kHours y) := by rintro (h | h); exact h3 h; exact h4 h
    refine callK_some (s := [(false, .any)]) (g_strF_at (a0 := kParts y)) ?_
    refine ri_call (b := asc (kParts y)) (by rw [List.length_map]; exact g_ri_5 hp1) _ ?_
    refine ifNB (fun h => badH (by decide) (by unfold headE; rw [if_neg n1, if_neg n2, if_neg n3, if_pos (.inl h)])) fun h5 => ?_
    refine callK_some (s := [(false, .any)]) (g_strF_at (a0 := kAfter y)) ?_
    refine ri_call (b := asc (kAfter y)) (by rw [List.length_map]; exact g_ri_5 (l := kAfter y) hp2) _ ?_
    refine ifNB (fun h => badH (by decide) (by unfold headE; rw [if_neg n1, if_neg n2, if_neg n3, if_pos (.inr h)])) fun h6 => ?_
    have hh : headE d y = 0 := by unfold headE; rw [if_neg n1, if_neg n2, if_neg n3, if_neg]; rintro (h | h); (rw [h5] at h; cases h); (rw [h6] at h; cases h)
    have hnd := asc_nodup h6
    clear badH n1 n2 n3 h3 h4 h5 h6 i1 i2
    rw [if_neg (fun h => h hh)] at hr
    refine decMK_eS (r := .bool) rfl es _ ?_
    refine loopK_ix (kParts y).length (fun j s => ∃ S', s.1 = (j : Int) ∧ Seen s.2.1 (fun x => x ∈ S') ∧ instE d y.2.1 ((kParts y).drop j) S' = instE d y.2.1 (kParts y) S) ⟨S, rfl, hseen, rfl⟩ ?_
    rintro Y j ⟨i, es', u⟩ hj ⟨S', rfl, hseen', hi⟩ hY
    dsimp only at hseen' hi ⊢
    refine ifP (fun hjl => ?_) fun hjl => ?_
    · rw [List.length_map] at hjl
      replace hjl : (j : Int) < ((kParts y).length : Int) := hjl
      have hjl : j < (kParts y).length := by omega
      rw [rowsK_at (r := .str) hjl]
      rw [List.drop_eq_getElem_cons hjl, instE] at hi
      have badI : ∀ {n : Int}, n ≠ 0 → (instE d y.2.1 (kParts y) S).1 = n → T.v (Value.int IntKind.i64 n) = T.v (Value.int IntKind.i64 (packsE d)) := fun hn h => by
        refine bad hn ?_
        rw [if_pos (by rw [h]; exact hn)] at hr
        rw [← hr]; exact h
      have hw : IntKind.i64.wrap ((j : Int) + 1) = ((j + 1 : Nat) : Int) := wrap_id _ (by omega) (by omega)
      generalize (kParts y)[j] = id at hi ⊢
      refine ixKg (fun _ hn => badI (by decide) ?_) fun i q hq _ hn => ?_
      · have hn : partOf d id = none := hn
        rw [hn] at hi; rw [← hi]
      · have hn : partOf d id = some d.2.2.1[q] := hn
        rw [hn] at hi
        rw [rowsK_at (r := yPart) hq]
        obtain ⟨p, hp⟩ : ∃ p, p = d.2.2.1[q] := ⟨_, rfl⟩
        rw [← hp] at hi hn ⊢
        dsimp only at hi
        have fin : ¬ (¬ aKind p = 4 ∧ ¬ aKind p = 3) → callK [(false, Sy.str.li), (false, Sy.bool)]
            (g_tclimb (A_tclimb d (ixs (ids d.2.1)) (ixs (ids d.2.2.1)) (ixs (ids d.2.2.2.1)) (ixs (ids d.2.2.2.2.1)) (aNode p))) fun (y18 : List ByteArray × Bool) =>
            iteP (decide (((List.map Sy.str.enc y18.fst).length : Int) = 0)) (T.v (Value.int IntKind.i64 2) = T.v (Value.int IntKind.i64 (packsE d)))
              (rowsK Sy.str (List.map Sy.str.enc y18.fst) (IntKind.i64.wrap (((List.map Sy.str.enc y18.fst).length : Int) - 1)) fun (y19 : ByteArray) =>
                iteP (!decide (y19 = y.snd.fst)) (T.v (Value.int IntKind.i64 2) = T.v (Value.int IntKind.i64 (packsE d)))
                (findK TypeDesc.string (Value.string id) (List.map (encE Sy.str false Sy.bool) es') false Sy.bool
                  (optK (Option (Nat × D)) (findD TypeDesc.string (Value.string id) (List.map (encE Sy.str false Sy.bool) es') 0) fun (y24 : Option (Nat × D)) =>
                    decMK Sy.str false Sy.bool (setEnt (List.map (encE Sy.str false Sy.bool) es') y24 (Value.string id) (D.p (T.v (Value.bool true)))) fun (y25 : List (ByteArray × Bool)) => Y (IntKind.i64.wrap ((j : Int) + 1), y25, ()))
                  fun (i20 : Nat) (y21 : Bool) => iteP y21 (T.v (Value.int IntKind.i64 7) = T.v (Value.int IntKind.i64 (packsE d)))
                    (optK (Option (Nat × D)) (findD TypeDesc.string (Value.string id) (List.map (encE Sy.str false Sy.bool) es') 0) fun (y22 : Option (Nat × D)) =>
                      decMK Sy.str false Sy.bool (setEnt (List.map (encE Sy.str false Sy.bool) es') y22 (Value.string id) (D.p (T.v (Value.bool true)))) fun (y23 : List (ByteArray × Bool)) => Y (IntKind.i64.wrap ((j : Int) + 1), y23, ())))) := by
          intro hk
          rw [if_neg hk] at hi
          refine callK_some (s := [(false, .li .str), (false, .bool)]) (g_tclimb_ok hs _) ?_
          have hul := up_len d (aNode p)
          refine lastK (A := True) (b := y.2.1) (by omega) (fun _ => trivial) (fun _ => trivial) (fun h => badI (by decide) ?_) fun h => ?_
          · rw [if_neg h] at hi; rw [← hi]
          · rw [if_pos h] at hi
            refine seenK (K := fun es => Y (IntKind.i64.wrap ((j : Int) + 1), es, ())) hseen' (fun h7 => badI (by decide) ?_) fun es2 h7 hs2 => ?_
            · rw [if_pos (memB_iff.2 h7)] at hi; rw [← hi]
            · rw [if_neg (fun h => h7 (memB_iff.1 h))] at hi
              rw [hw]
              exact hY _ hjl ⟨id :: S', rfl, hs2, hi⟩
        refine ifQ (fun k4 => ?_) fun k4 => ?_
        · refine ifQ (fun k3 => badI (by decide) ?_) fun k3 => ?_
          · rw [if_pos ⟨k4, k3⟩] at hi; rw [← hi]
          · rw [rowsK_at (r := yPart) hq, ← hp]
            exact fin fun h => h.2 k3
        · rw [rowsK_at (r := yPart) hq, ← hp]
          exact fin fun h => h.1 k4
    · rw [List.length_map] at hjl
      replace hjl : ¬ (j : Int) < ((kParts y).length : Int) := hjl
      have hjl : j = (kParts y).length := by omega
      subst hjl
      rw [List.drop_length, instE] at hi
      rw [← hi, if_neg (by simp)] at hr
      dsimp only at hr
      clear hY hi hj
      rw [decK_map rfl]
      refine loopK_ix (kAfter y).length (fun j s => s.2.1 = (j : Int) ∧ s.1.length = E.length + j ∧ (∀ x ∈ (kAfter y).take j, x ∈ ids d.2.2.2.2.1) ∧ aftE d y.1 k ((kAfter y).drop j) s.1 = aftE d y.1 k (kAfter y) E) ⟨rfl, by simp, by simp, rfl⟩ ?_
      rintro Y j ⟨E', i, u⟩ hj ⟨rfl, hEl, hin, hi⟩ hY
      dsimp only at hEl hin hi ⊢
      have hjk : j ≤ 64 := by
        have h1 := len_sub (hnd.sublist (List.take_sublist j _)) hin
        have h2 : (ids d.2.2.2.2.1).length = d.2.2.2.2.1.length := by simp [ids]
        rw [List.length_take] at h1
        omega
      refine ifP (fun hjl => ?_) fun hjl => ?_
      · rw [List.length_map] at hjl
        replace hjl : (j : Int) < ((kAfter y).length : Int) := hjl
        have hjl : j < (kAfter y).length := by omega
        rw [rowsK_at (r := .str) hjl]
        rw [List.drop_eq_getElem_cons hjl, aftE] at hi
        have badA : ∀ {n : Int}, n ≠ 0 → (aftE d y.1 k (kAfter y) E).1 = n → T.v (Value.int IntKind.i64 n) = T.v (Value.int IntKind.i64 (packsE d)) := fun hn h => by
          refine bad hn ?_
          rw [if_pos (by rw [h]; exact hn)] at hr
          rw [← hr]; exact h
        have hw : IntKind.i64.wrap ((j : Int) + 1) = ((j + 1 : Nat) : Int) := wrap_id _ (by omega) (by omega)
        have hts : (kAfter y).take (j + 1) = (kAfter y).take j ++ [(kAfter y)[j]] := List.take_succ_eq_append_getElem hjl
        generalize (kAfter y)[j] = id at hi hts ⊢
        refine ifP (fun h => badA (by decide) ?_) fun h => ?_
        · rw [if_pos h] at hi; rw [← hi]
        rw [if_neg h] at hi
        refine ixKg (fun hg _ => badA (by decide) ?_) fun i q hq hg hfi => ?_
        · rw [hg] at hi; rw [← hi]
        · rw [hg] at hi
          dsimp only at hi
          refine ⟨by simp; omega, ?_⟩
          rw [decK_snoc (r := yPoint) rfl E' [T.v (.int .i64 (q : Int)), T.v (.int .i64 (k : Int))] ((q : Int), (k : Int)) rfl, hw]
          refine hY _ hjl ⟨rfl, by simp only [List.length_append, List.length_cons, List.length_nil]; omega, fun x hx => ?_, hi⟩
          rw [hts] at hx
          rcases List.mem_append.1 hx with hx | hx
          · exact hin x hx
          · have hx : x = id := by simpa using hx
            subst hx
            have h9 := List.find?_some hfi
            exact List.mem_map.2 ⟨_, List.getElem_mem hq, of_decide_eq_true h9⟩
      · rw [List.length_map] at hjl
        replace hjl : ¬ (j : Int) < ((kAfter y).length : Int) := hjl
        have hjl : j = (kAfter y).length := by omega
        subst hjl
        rw [List.drop_length, aftE] at hi
        rw [← hi, if_neg (by simp)] at hr
        dsimp only at hr
        rw [decK_map rfl]
        refine decMK_eS (r := .bool) rfl es' _ ?_
        refine hX _ hlt ⟨S', ?_, hseen', ?_, ?_⟩
        · show IntKind.i64.wrap ((k : Int) + 1) = _
          rw [wrap_id] <;> omega
        · show E'.length ≤ _
          omega
        · rw [← hr]; rfl
  · rw [List.length_map] at hge
    have hkl : k = d.2.2.2.2.1.length := by omega
    subst hkl
    rw [List.drop_length, packRun] at hr
    have w : packsE d = if (orderE d.2.2.2.2.1.length E).2 = 0 then 0 else 20 := by
      unfold packsE; rw [← hr, if_pos rfl]
    refine callK_some (s := [(false, .li (.int .i64)), (false, .int .i64)]) (y := orderE d.2.2.2.2.1.length E) (by rw [List.length_map]; exact (g_order_at ..).trans (onlyL_ok (l := E) _ (by omega))) ?_
    exact ifQ (fun h => is (by rw [w, if_neg h])) fun h => is (by rw [w, if_pos h])
end Go.Pv
set_option linter.unusedSimpArgs false
set_option linter.unusedVariables false
set_option maxRecDepth 100000
namespace Go.Pv
open Go Go.Proofs
theorem firstE_cases {α : Type} {f : α → Int} : ∀ {l : List α}, firstE f l = 0 ∨ ∃ a ∈ l, firstE f l = f a
  | [] => .inl rfl
  | a :: l => by
    unfold firstE
    by_cases h : f a = 0
    · rw [if_pos h]
      rcases firstE_cases (f := f) (l := l) with h | ⟨b, hb, h⟩
      · exact .inl h
      · exact .inr ⟨b, List.mem_cons_of_mem _ hb, h⟩
    · rw [if_neg h]; exact .inr ⟨a, List.mem_cons_self, rfl⟩
theorem ixK_opt {a : Option MP} {es : MP} {K : MP → Prop} (h : a = some es) (hk : K es) : optK (List (ByteArray × Int)) a K := ⟨es, h, hk⟩
end Go.Pv
set_option linter.unusedSimpArgs false
set_option linter.unusedVariables false
set_option maxRecDepth 100000
namespace Go.Pv
open Go Go.Proofs
noncomputable def g_ixB : List T → Option (List (ByteArray × Int)) := g_ix
theorem fn_ixB : NewFn Tryz.prog 28 (gMap g_ixB) := fn_ix
set_option maxRecDepth 100000
noncomputable def E_chkF : Env := Env.of [(8, .pure g_mcheck), (9, .pure g_isName), (28, .fmap g_ixB), (11, .pure g_form), (12, .pure g_cNodes), (13, .pure g_dParts), (14, .pure g_cSeams), (15, .pure g_dPacks), (16, .pure g_cNeeds)]
def H_chkF : FuncId → Hint := fun _ => noHint
theorem Eok_chkF : EnvOk Tryz.prog E_chkF := EnvOk.cons (x := .pure g_mcheck) fn_mcheck (EnvOk.cons (x := .pure g_isName) fn_isName (EnvOk.cons (x := .fmap g_ixB) fn_ixB (EnvOk.cons (x := .pure g_form) fn_form (EnvOk.cons (x := .pure g_cNodes) fn_cNodes (EnvOk.cons (x := .pure g_dParts) fn_dParts (EnvOk.cons (x := .pure g_cSeams) fn_cSeams (EnvOk.cons (x := .pure g_dPacks) fn_dPacks (EnvOk.cons (x := .pure g_cNeeds) fn_cNeeds (EnvOk.nil _)))))))))
def F_chkF (a0 : TDesign) (a1 : TMaterials) (R : T → Prop) : Prop :=
 callK [(false, Sy.int IntKind.i64)] (g_mcheck [encV true yMaterials a1])
 fun (y0 : Int) =>
 iteP (!decide (y0 = 0)) (R (T.v (Value.int IntKind.i64 y0)))
 (callK [(false, Sy.bool)] (g_isName [T.v (Value.string a0.fst)]) fun (y1 : Bool) =>
 iteP (!y1) (R (T.v (Value.int IntKind.i64 6)))
 (optK (List (ByteArray × Int))
 (g_ixB
 [T.fn 29 [].reverse
 [T.ref
 [T.ref
 [T.sl false (List.map yNeed.enc a0.snd.snd.snd.snd.snd),
 T.sl false (List.map yPackage.enc a0.snd.snd.snd.snd.fst),
 T.sl false (List.map ySeam.enc a0.snd.snd.snd.fst),
 T.sl false (List.map yPart.enc a0.snd.snd.fst),
 T.sl false (List.map yNode.enc a0.snd.fst),
 T.v (Value.string a0.fst)].reverse].reverse].reverse,
 T.v (Value.int IntKind.i64 (↑(List.map yNode.enc a0.snd.fst).length : Int))].reverse)
 fun (y2 : List (ByteArray × Int)) =>
 optK (List (ByteArray × Int))
 (g_ixB
 [T.fn 30 [].reverse
 [T.ref
 [T.ref
 [T.sl false (List.map yNeed.enc a0.snd.snd.snd.snd.snd),
 T.sl false (List.map yPackage.enc a0.snd.snd.snd.snd.fst),
 T.sl false (List.map ySeam.enc a0.snd.snd.snd.fst),
 T.sl false (List.map yPart.enc a0.snd.snd.fst),
 T.sl false (List.map yNode.enc a0.snd.fst),
 T.v (Value.string a0.fst)].reverse].reverse].reverse,
 T.v
 (Value.int IntKind.i64 (↑(List.map yPart.enc a0.snd.snd.fst).length : Int))].reverse)
 fun (y3 : List (ByteArray × Int)) =>
 optK (List (ByteArray × Int))
 (g_ixB
 [T.fn 31 [].reverse
 [T.ref
 [T.ref
 [T.sl false (List.map yNeed.enc a0.snd.snd.snd.snd.snd),
 T.sl false (List.map yPackage.enc a0.snd.snd.snd.snd.fst),
 T.sl false (List.map ySeam.enc a0.snd.snd.snd.fst),
 T.sl false (List.map yPart.enc a0.snd.snd.fst),
 T.sl false (List.map yNode.enc a0.snd.fst),
 T.v (Value.string a0.fst)].reverse].reverse].reverse,
 T.v
 (Value.int IntKind.i64
 (↑(List.map ySeam.enc a0.snd.snd.snd.fst).length : Int))].reverse)
 fun (y4 : List (ByteArray × Int)) =>
 optK (List (ByteArray × Int))
 (g_ixB
 [T.fn 32 [].reverse
 [T.ref
 [T.ref
 [T.sl false (List.map yNeed.enc a0.snd.snd.snd.snd.snd),
 T.sl false (List.map yPackage.enc a0.snd.snd.snd.snd.fst),
 T.sl false (List.map ySeam.enc a0.snd.snd.snd.fst),
 T.sl false (List.map yPart.enc a0.snd.snd.fst),
 T.sl false (List.map yNode.enc a0.snd.fst),
 T.v (Value.string a0.fst)].reverse].reverse].reverse,
 T.v
 (Value.int IntKind.i64
 (↑(List.map yPackage.enc a0.snd.snd.snd.snd.fst).length : Int))].reverse)
 fun (y5 : List (ByteArray × Int)) =>
 callK [(false, Sy.int IntKind.i64)]
 (g_form
 [T.ref
 [T.ref
 [T.v (Value.string a0.fst), T.sl false (List.map yNode.enc a0.snd.fst),
 T.sl false (List.map yPart.enc a0.snd.snd.fst),
 T.sl false (List.map ySeam.enc a0.snd.snd.snd.fst),
 T.sl false (List.map yPackage.enc a0.snd.snd.snd.snd.fst),
 T.sl false (List.map yNeed.enc a0.snd.snd.snd.snd.snd)],
 T.mp (encM y2), T.mp (encM y3), T.mp (encM y4),
 T.mp (encM y5)]])
 fun (y6 : Int) =>
 iteP (!decide (y6 = 0)) (R (T.v (Value.int IntKind.i64 y6)))
 (callK [(false, Sy.int IntKind.i64)]
 (g_cNodes
 [T.ref
 [T.ref
 [T.v (Value.string a0.fst),
 T.sl false (List.map yNode.enc a0.snd.fst),
 T.sl false (List.map yPart.enc a0.snd.snd.fst),
 T.sl false (List.map ySeam.enc a0.snd.snd.snd.fst),
 T.sl false (List.map yPackage.enc a0.snd.snd.snd.snd.fst),
 T.sl false (List.map yNeed.enc a0.snd.snd.snd.snd.snd)],
 T.mp (encM y2), T.mp (encM y3), T.mp (encM y4),
 T.mp (encM y5)]])
 fun (y7 : Int) =>
 iteP (!decide (y7 = 0)) (R (T.v (Value.int IntKind.i64 y7)))
 (callK [(false, Sy.int IntKind.i64)]
 (g_dParts
 [T.ref
 [T.ref
 [T.v (Value.string a0.fst),
 T.sl false (List.map yNode.enc a0.snd.fst),
 T.sl false (List.map yPart.enc a0.snd.snd.fst),
 T.sl false (List.map ySeam.enc a0.snd.snd.snd.fst),
 T.sl false (List.map yPackage.enc a0.snd.snd.snd.snd.fst),
 T.sl false (List.map yNeed.enc a0.snd.snd.snd.snd.snd)],
 T.mp (encM y2), T.mp (encM y3), T.mp (encM y4),
 T.mp (encM y5)],
 encV true yMaterials a1])
 fun (y8 : Int) =>
 iteP (!decide (y8 = 0)) (R (T.v (Value.int IntKind.i64 y8)))
 (callK [(false, Sy.int IntKind.i64)]
 (g_cSeams
 [T.ref
 [T.ref
 [T.v (Value.string a0.fst),
 T.sl false (List.map yNode.enc a0.snd.fst),
 T.sl false (List.map yPart.enc a0.snd.snd.fst),
 T.sl false (List.map ySeam.enc a0.snd.snd.snd.fst),
 T.sl false (List.map yPackage.enc a0.snd.snd.snd.snd.fst),
 T.sl false (List.map yNeed.enc a0.snd.snd.snd.snd.snd)],
 T.mp (encM y2), T.mp (encM y3),
 T.mp (encM y4), T.mp (encM y5)]])
 fun (y9 : Int) =>
 iteP (!decide (y9 = 0)) (R (T.v (Value.int IntKind.i64 y9)))
 (callK [(false, Sy.int IntKind.i64)]
 (g_dPacks
 [T.ref
 [T.ref
 [T.v (Value.string a0.fst),
 T.sl false (List.map yNode.enc a0.snd.fst),
 T.sl false (List.map yPart.enc a0.snd.snd.fst),
 T.sl false (List.map ySeam.enc a0.snd.snd.snd.fst),
 T.sl false (List.map yPackage.enc a0.snd.snd.snd.snd.fst),
 T.sl false (List.map yNeed.enc a0.snd.snd.snd.snd.snd)],
 T.mp (encM y2), T.mp (encM y3),
 T.mp (encM y4), T.mp (encM y5)]])
 fun (y10 : Int) =>
 iteP (!decide (y10 = 0)) (R (T.v (Value.int IntKind.i64 y10)))
 (callK [(false, Sy.int IntKind.i64)]
 (g_cNeeds
 [T.ref
 [T.ref
 [T.v (Value.string a0.fst),
 T.sl false (List.map yNode.enc a0.snd.fst),
 T.sl false (List.map yPart.enc a0.snd.snd.fst),
 T.sl false (List.map ySeam.enc a0.snd.snd.snd.fst),
 T.sl false (List.map yPackage.enc a0.snd.snd.snd.snd.fst),
 T.sl false (List.map yNeed.enc a0.snd.snd.snd.snd.snd)],
 T.mp (encM y2), T.mp (encM y3),
 T.mp (encM y4), T.mp (encM y5)]])
 fun (y11 : Int) => R (T.v (Value.int IntKind.i64 y11)))))))))
theorem F_chkF_eq (a0 : TDesign) (a1 : TMaterials) (R : T → Prop) : sxTop stdC2 Tryz.prog E_chkF H_chkF 8 5 [encV true yDesign a0, encV true yMaterials a1] R = F_chkF a0 a1 R := by kernel_rfl
abbrev s_chkF : Sh := [(true, yDesign), (true, yMaterials)]
abbrev r_chkF : Sh := [(false, Sy.int IntKind.i64)]
theorem r_chkF_call (y : Sh.den r_chkF) (K : Sh.den r_chkF → Prop) : callK r_chkF (some (Sh.enc r_chkF y)) K = K y := callK_enc rfl y K

def chkF (d : TDesign) (m : TMaterials) : Int := if ¬ matE m = 0 then matE m else if isName d.1 = false then 6 else if ¬ formE d = 0 then formE d else if ¬ nodesE d = 0 then nodesE d else if ¬ partsE d m = 0 then partsE d m else if ¬ firstE (seamE d) d.2.2.2.1 = 0 then firstE (seamE d) d.2.2.2.1 else if ¬ packsE d = 0 then packsE d else firstE (needE d) d.2.2.2.2.2
def sp_chkF (x : TDesign × TMaterials) : Option T := some (T.v (Value.int .i64 (chkF x.1 x.2)))
noncomputable def g_chkF : List T → Option (T) := gS s_chkF sp_chkF
theorem g_chkF_at {a0 : TDesign} {a1 : TMaterials} : g_chkF [encV true yDesign a0, encV true yMaterials a1] = sp_chkF (a0, a1) := gS_enc (s := s_chkF) rfl (a0, a1) rfl
theorem g_chkF_op {u0 u1 u2 u3 u4 u5 u6 u7} : g_chkF [T.agg
    [T.v (Value.string u0), T.sl false (List.map yNode.enc u1),
      T.sl false (List.map yPart.enc u2),
      T.sl false (List.map ySeam.enc u3),
      T.sl false (List.map yPackage.enc u4),
      T.sl false (List.map yNeed.enc u5)],
  T.agg [T.sl false (List.map yGrade.enc u6), T.sl false (List.map ySection.enc u7)]] = sp_chkF ((u0, (u1, (u2, (u3, (u4, u5))))), (u6, u7)) := gS_enc (s := s_chkF) rfl ((u0, (u1, (u2, (u3, (u4, u5))))), (u6, u7)) rfl
theorem of_chkF (h : ∀ (a0 : TDesign) (a1 : TMaterials) (r : T), sp_chkF (a0, a1) = some r → BdSh s_chkF (a0, a1) → F_chkF a0 a1 (fun y => y = r)) : PureFn Tryz.prog 5 g_chkF :=
  pureFn_S (E := E_chkF) (Hs := H_chkF) Eok_chkF mixed' plain' (noHeap_of rfl) 8 ⟨_, _, Tryz.func5, rfl⟩ rfl fun x r h1 h2 => by
    obtain ⟨a0, a1⟩ := x
    rw [show Sh.encs s_chkF (a0, a1) = [encV true yDesign a0, encV true yMaterials a1] from rfl, F_chkF_eq]
    exact h a0 a1 r h1 h2

theorem matE_ok {m : TMaterials} (h : matE m = 0) : okM m = true := by
  unfold matE at h
  split at h
  · cases h
  rename_i h1
  split at h
  · rename_i h2; exact absurd h h2
  rename_i h2
  have h2 : firstE (gradeI m) (List.range m.1.length) = 0 := Classical.byContradiction h2
  simp only [okM, Bool.and_eq_true, decide_eq_true_eq, List.all_eq_true]
  refine ⟨⟨by omega, by omega⟩, fun g hg => ?_⟩
  obtain ⟨i, hi, rfl⟩ := List.mem_iff_getElem.1 hg
  have h3 := firstE_zero h2 i (List.mem_range.2 hi)
  unfold gradeI at h3
  rw [getD_at hi] at h3
  have h4 : gradeE m.1[i] = 0 := by
    refine Classical.byContradiction fun hc => ?_
    rw [if_pos hc] at h3
    exact hc h3
  unfold gradeE at h4
  split at h4
  · cases h4
  split at h4
  · cases h4
  split at h4
  · cases h4
  split at h4
  · cases h4
  · omega
theorem cPartsF {d : TDesign} {m : TMaterials} (hs : SmallD d) (hm : okM m = true) : g_dParts (A_dParts d (ixs (ids d.2.1)) (ixs (ids d.2.2.1)) (ixs (ids d.2.2.2.1)) (ixs (ids d.2.2.2.2.1)) m) = some (T.v (Value.int .i64 (partsE d m))) := by
  rw [g_dParts_at]; unfold sp_dParts; dsimp only; rw [hm]; exact onlyT_ok hs _
theorem cPacksF {d : TDesign} (hs : SmallD d) (hk : okPacks d = true) : g_dPacks (A_dPacks d (ixs (ids d.2.1)) (ixs (ids d.2.2.1)) (ixs (ids d.2.2.2.1)) (ixs (ids d.2.2.2.2.1))) = some (T.v (Value.int .i64 (packsE d))) := by
  rw [g_dPacks_at]; unfold sp_dPacks; dsimp only; rw [hk]; exact onlyT_ok hs _
theorem fn_chkF : PureFn Tryz.prog 5 g_chkF := of_chkF fun d m r h hb => by
  cases h
  have hd : BdS yDesign d := hb.1
  have hs : SmallD d := ⟨hd.2.1.1, hd.2.2.1.1, hd.2.2.2.1.1, hd.2.2.2.2.1.1, hd.2.2.2.2.2.1⟩
  have hkl : ∀ k ∈ d.2.2.2.2.1, (kParts k).length ≤ 140737488355328 ∧ (kAfter k).length ≤ 140737488355328 := fun k hk => by
    have h := hd.2.2.2.2.1.2 k hk
    exact ⟨h.2.2.1.1, h.2.2.2.2.1⟩
  clear hd
  have is : ∀ {n : Int}, chkF d m = n → T.v (Value.int IntKind.i64 n) = T.v (Value.int IntKind.i64 (chkF d m)) := fun h => by rw [h]
  unfold F_chkF
  refine callK_some (s := [(false, .int .i64)]) (y := matE m) (g_mcheck_at ..) ?_
  refine ifQ (fun h => is (by unfold chkF; rw [if_pos h])) fun h0 => ?_
  have hm := matE_ok h0
  refine callK_some (s := [(false, .bool)]) (y := isName d.1) g_isName_at ?_
  have n0 : ¬ ¬ matE m = 0 := fun h => h h0
  refine ifNB (fun h => is (by unfold chkF; rw [if_neg n0, if_pos h])) fun hn => ?_
  have n1 : ¬ isName d.1 = false := by rw [hn]; decide
  refine ixK_opt (es := ixs (ids d.2.1)) (by rw [List.length_map]; exact g_ix_1 hs.n) ?_
  refine ixK_opt (es := ixs (ids d.2.2.1)) (by rw [List.length_map]; exact g_ix_2 hs.p) ?_
  refine ixK_opt (es := ixs (ids d.2.2.2.1)) (by rw [List.length_map]; exact g_ix_3 hs.s) ?_
  refine ixK_opt (es := ixs (ids d.2.2.2.2.1)) (by rw [List.length_map]; exact g_ix_4 hs.k) ?_
  refine callK_some (s := [(false, .int .i64)]) (y := formE d) ((g_form_at ..).trans (onlyT_ok hs _)) ?_
  refine ifQ (fun h => is (by unfold chkF; rw [if_neg n0, if_neg n1, if_pos h])) fun h1 => ?_
  have n2 : ¬ ¬ formE d = 0 := fun h => h h1
  have hk : okPacks d = true := by
    simp only [okPacks, Bool.and_eq_true, decide_eq_true_eq, List.all_eq_true]
    refine ⟨hkl, ?_⟩
    have hlong : tooLong d = false := by
      rw [Bool.eq_false_iff]
      intro h
      unfold formE at h1
      rw [if_pos h] at h1
      cases h1
    simp only [tooLong, Bool.or_eq_false_iff, decide_eq_false_iff_not] at hlong
    omega
  refine callK_some (s := [(false, .int .i64)]) (y := nodesE d) ((g_cNodes_at ..).trans (onlyT_ok hs _)) ?_
  refine ifQ (fun h => is (by unfold chkF; rw [if_neg n0, if_neg n1, if_neg n2, if_pos h])) fun h2 => ?_
  have n3 : ¬ ¬ nodesE d = 0 := fun h => h h2
  refine callK_some (s := [(false, .int .i64)]) (y := partsE d m) (cPartsF hs hm) ?_
  refine ifQ (fun h => is (by unfold chkF; rw [if_neg n0, if_neg n1, if_neg n2, if_neg n3, if_pos h])) fun h3 => ?_
  have n4 : ¬ ¬ partsE d m = 0 := fun h => h h3
  refine callK_some (s := [(false, .int .i64)]) (y := firstE (seamE d) d.2.2.2.1) ((g_cSeams_at ..).trans (onlyT_ok hs _)) ?_
  refine ifQ (fun h => is (by unfold chkF; rw [if_neg n0, if_neg n1, if_neg n2, if_neg n3, if_neg n4, if_pos h])) fun h4 => ?_
  have n5 : ¬ ¬ firstE (seamE d) d.2.2.2.1 = 0 := fun h => h h4
  refine callK_some (s := [(false, .int .i64)]) (y := packsE d) (cPacksF hs hk) ?_
  refine ifQ (fun h => is (by unfold chkF; rw [if_neg n0, if_neg n1, if_neg n2, if_neg n3, if_neg n4, if_neg n5, if_pos h])) fun h5 => ?_
  have n6 : ¬ ¬ packsE d = 0 := fun h => h h5
  refine callK_some (s := [(false, .int .i64)]) (y := firstE (needE d) d.2.2.2.2.2) ((g_cNeeds_at ..).trans (onlyT_ok hs _)) ?_
  exact is (by unfold chkF; rw [if_neg n0, if_neg n1, if_neg n2, if_neg n3, if_neg n4, if_neg n5, if_neg n6])
noncomputable def g_chkFD : List T → Option T := gD g_chkF
theorem fn_chkFD : PureFn Tryz.prog 5 g_chkFD := fn_chkF.deep
end Go.Pv
set_option linter.unusedSimpArgs false
set_option linter.unusedVariables false
set_option maxRecDepth 100000
namespace Go.Pv
open Go Go.Proofs
def validE (d : TDesign) (m : TMaterials) : Bool := light d 40 && decide (m.1.length ≤ 40) && decide (m.2.length ≤ 40) && decide (chkF d m = 0)
/-! ### What a valid design is known by -/
theorem chkF_ok {d : TDesign} {m : TMaterials} (h : chkF d m = 0) : matE m = 0 ∧ isName d.1 = true ∧ formE d = 0 ∧ nodesE d = 0 ∧ partsE d m = 0 ∧ firstE (seamE d) d.2.2.2.1 = 0 ∧ packsE d = 0 ∧ firstE (needE d) d.2.2.2.2.2 = 0 := by
  unfold chkF at h
  split at h
  · exact absurd h ‹_›
  split at h
  · cases h
  split at h
  · exact absurd h ‹_›
  split at h
  · exact absurd h ‹_›
  split at h
  · exact absurd h ‹_›
  split at h
  · exact absurd h ‹_›
  split at h
  · exact absurd h ‹_›
  rename_i h1 h2 h3 h4 h5 h6 h7
  exact ⟨Classical.byContradiction h1, by simpa using h2, Classical.byContradiction h3, Classical.byContradiction h4, Classical.byContradiction h5, Classical.byContradiction h6, Classical.byContradiction h7, h⟩
theorem formE_ok {d : TDesign} (h : formE d = 0) : tooLong d = false ∧ (asc (ids d.2.1) = true ∧ asc (ids d.2.2.1) = true ∧ asc (ids d.2.2.2.1) = true ∧ asc (ids d.2.2.2.2.1) = true) ∧ dupD d = false := by
  unfold formE at h
  split at h
  · cases h
  split at h
  · cases h
  split at h
  · cases h
  rename_i h1 h2 h3
  have h2 : inOrder d = true := by simpa using h2
  simp only [inOrder, Bool.and_eq_true] at h2
  exact ⟨by simpa using h1, ⟨h2.1.1.1.1, h2.1.1.1.2, h2.1.1.2, h2.1.2⟩, by simpa using h3⟩
theorem seamE_ok {d : TDesign} {s : TSeam} (h : seamE d s = 0) : (isId s.1 = true ∧ isId s.2.1 = true ∧ isId s.2.2.1 = true) ∧ s.2.1 ≠ s.2.2.1 ∧ (s.2.2.2.1 = 1 ∨ s.2.2.2.1 = 2) ∧ (1 ≤ s.2.2.2.2.1 ∧ s.2.2.2.2.1 ≤ 32768 ∧ 1 ≤ s.2.2.2.2.2 ∧ s.2.2.2.2.2 ≤ 3) ∧ (partOf d s.2.1).isSome = true ∧ (partOf d s.2.2.1).isSome = true := by
  unfold seamE at h
  split at h
  · cases h
  split at h
  · cases h
  split at h
  · cases h
  split at h
  · cases h
  split at h
  · cases h
  rename_i h1 h2 h3 h4 h5
  simp only [not_or, Option.isNone_iff_eq_none, Bool.not_eq_false] at h1 h5
  refine ⟨h1, h2, by omega, by omega, ?_, ?_⟩
  · cases h : partOf d s.2.1 with
    | none => exact absurd h h5.1
    | some _ => rfl
  · cases h : partOf d s.2.2.1 with
    | none => exact absurd h h5.2
    | some _ => rfl
/-- An identifier finds the element at its place, where no identifier is there twice. -/
theorem find_at {α : Type} : ∀ {l : List (ByteArray × α)}, (ids l).Nodup → ∀ (k : Nat) (h : k < l.length), l.find? (fun s => decide (s.1 = l[k].1)) = some l[k]
  | [], _, k, h => by cases h
  | a :: l, hn, 0, h => by simp
  | a :: l, hn, k + 1, h => by
    obtain ⟨h1, h2⟩ := List.pairwise_cons.1 (show (a.1 :: ids l).Nodup from hn)
    have hk : k < l.length := by simpa using h
    have hne : a.1 ≠ l[k].1 := h1 _ (List.mem_map.2 ⟨l[k], List.getElem_mem hk, rfl⟩)
    simp only [List.getElem_cons_succ]
    rw [List.find?_cons_of_neg (by simpa using hne)]
    exact find_at h2 k hk
theorem find_mem {α : Type} {l : List (ByteArray × α)} {id : ByteArray} {a : ByteArray × α} (h : l.find? (fun s => decide (s.1 = id)) = some a) : a ∈ l ∧ a.1 = id :=
  ⟨List.mem_of_find?_eq_some h, by have := List.find?_some h; simpa using this⟩
structure Valid (d : TDesign) (m : TMaterials) : Prop where
  light : light d 40 = true
  mat : matE m = 0
  nodes : (ids d.2.1).Nodup
  parts : (ids d.2.2.1).Nodup
  seams : (ids d.2.2.2.1).Nodup
  node : nodesE d = 0
  part : partsE d m = 0
  seam : ∀ s ∈ d.2.2.2.1, seamE d s = 0
  small : d.2.1.length ≤ 40 ∧ d.2.2.1.length ≤ 40 ∧ d.2.2.2.1.length ≤ 40
theorem valid_ok {d : TDesign} {m : TMaterials} (h : validE d m = true) : Valid d m := by
  simp only [validE, Bool.and_eq_true, decide_eq_true_eq] at h
  obtain ⟨⟨⟨h1, _⟩, _⟩, h2⟩ := h
  obtain ⟨c1, c2, c3, c4, c5, c6, c7, c8⟩ := chkF_ok h2
  obtain ⟨_, ⟨a1, a2, a3, a4⟩, _⟩ := formE_ok c3
  have h3 := h1
  simp only [Go.Pv.light, Bool.and_eq_true, decide_eq_true_eq] at h3
  exact ⟨h1, c1, asc_nodup a1, asc_nodup a2, asc_nodup a3, c4, c5, firstE_zero c6, by omega⟩
theorem light_up {d : TDesign} (h : light d 40 = true) : light d 100 = true := by
  simp only [light, Bool.and_eq_true, decide_eq_true_eq] at h ⊢
  omega
end Go.Pv
set_option linter.unusedSimpArgs false
set_option linter.unusedVariables false
set_option maxRecDepth 100000
namespace Go.Pv
open Go Go.Proofs
theorem okD_inV {d : TDesign} (h : InS yDesign d) : okD d = true := by
  refine List.all_eq_true.2 fun p hp => ?_
  obtain ⟨_, _, ⟨_, _, h3⟩, _⟩ := h
  have h4 := h3 p hp
  obtain ⟨_, _, _, _, _, _, ⟨⟨h5, h6, _⟩, h7, h8, h9⟩, _⟩ := h4
  unfold okPart okShape okLen
  simp only [Bool.and_eq_true, decide_eq_true_eq, List.all_eq_true]
  refine ⟨⟨⟨?_, ?_⟩, ?_, ?_⟩, fun q hq => ?_⟩
  · exact h5
  · exact h6
  · exact h7
  · exact h8
  · obtain ⟨g1, g2, _⟩ := h9 q hq
    exact ⟨g1, g2⟩
/-! ### SeamTwo -/
theorem one_id {α : Type} {l : List (ByteArray × α)} (hn : (ids l).Nodup) {a b : ByteArray × α} (ha : a ∈ l) (hb : b ∈ l) (h : a.1 = b.1) : a = b := by
  obtain ⟨i, hi, rfl⟩ := List.mem_iff_getElem.1 ha
  obtain ⟨j, hj, rfl⟩ := List.mem_iff_getElem.1 hb
  have h1 := find_at hn i hi
  have h2 := find_at hn j hj
  rw [h, h2] at h1
  exact (Option.some.inj h1).symm
theorem count_or {α : Type} {a b : ByteArray} (hab : a ≠ b) : ∀ {l : List (ByteArray × α)}, (ids l).Nodup → (l.filter fun p => decide (a = p.1) || decide (b = p.1)).length = (memB (ids l) a).toNat + (memB (ids l) b).toNat
  | [], _ => rfl
  | p :: l, hn => by
    obtain ⟨h1, h2⟩ := List.pairwise_cons.1 (show (p.1 :: ids l).Nodup from hn)
    have ih := count_or hab h2
    have hnot : memB (ids l) p.1 = false := by
      rw [Bool.eq_false_iff]; intro h; exact h1 _ (memB_iff.1 h) rfl
    have hm : ∀ x, memB (ids (p :: l)) x = (decide (p.1 = x) || memB (ids l) x) := fun x => rfl
    rw [List.filter_cons, hm, hm]
    by_cases ha : a = p.1
    · have hb : ¬ b = p.1 := fun h => hab (ha.trans h.symm)
      have hb' : ¬ p.1 = b := fun h => hb h.symm
      rw [← ha] at hnot
      rw [if_pos (by rw [decide_eq_true ha]; rfl), List.length_cons, ih, hnot, decide_eq_true ha.symm, decide_eq_false hb']
      simp; omega
    · have ha' : ¬ p.1 = a := fun h => ha h.symm
      by_cases hb : b = p.1
      · rw [← hb] at hnot
        rw [if_pos (by rw [decide_eq_true hb, Bool.or_true]), List.length_cons, ih, hnot, decide_eq_true hb.symm, decide_eq_false ha']
        simp
      · have hb' : ¬ p.1 = b := fun h => hb h.symm
        rw [if_neg (by rw [decide_eq_false ha, decide_eq_false hb]; decide), ih, decide_eq_false ha', decide_eq_false hb']
        simp
theorem memB_find {α : Type} {l : List (ByteArray × α)} {id : ByteArray} (h : (l.find? fun s => decide (s.1 = id)).isSome = true) : memB (ids l) id = true := by
  obtain ⟨a, ha⟩ := Option.isSome_iff_exists.1 h
  obtain ⟨h1, h2⟩ := find_mem ha
  exact memB_iff.2 (List.mem_map.2 ⟨a, h1, h2⟩)
/-! ### SeamThin -/
theorem secThick_pos (s : TSection) : 1 ≤ secThick s := by unfold secThick; split <;> omega
theorem part_ok {d : TDesign} {m : TMaterials} (V : Valid d m) {id : ByteArray} {p : TPart} (h : partOf d id = some p) : partE p m = 0 ∧ (nodeOf d (aNode p)).isSome = true := by
  have hp := V.part
  unfold partsE at hp
  have h0 : firstE (partNodeE d m) d.2.2.1 = 0 := by
    refine Classical.byContradiction fun hc => ?_
    rw [if_neg hc] at hp
    exact hc hp
  have h1 := firstE_zero h0 p (find_mem h).1
  unfold partNodeE at h1
  have h2 : partE p m = 0 := by
    refine Classical.byContradiction fun hc => ?_
    rw [if_neg hc] at h1
    exact hc h1
  rw [if_pos h2] at h1
  refine ⟨h2, ?_⟩
  cases hn : nodeOf d (aNode p) with
  | none => rw [hn] at h1; cases h1
  | some _ => rfl
theorem partE_ok {p : TPart} {m : TMaterials} (h : partE p m = 0) : (aKind p = 1 ∨ aKind p = 2 ∨ aKind p = 3 ∨ aKind p = 4) ∧ madeB p m = true := by
  unfold partE at h
  split at h
  · cases h
  split at h
  · cases h
  split at h
  · cases h
  split at h
  · cases h
  split at h
  · cases h
  rename_i h1 h2 h3 h4 h5
  exact ⟨Classical.byContradiction h3, by simpa using h5⟩
theorem thick0_ok {d : TDesign} {m : TMaterials} {id : ByteArray} {p : TPart} (h : partOf d id = some p) (hp : partE p m = 0) : (thick0 d m id).2 = true ∧ (aKind p = 4 → (thick0 d m id).1 = 0) ∧ (aKind p = 1 → (thick0 d m id).1 = aThick p) ∧ (¬ aKind p = 4 → 1 ≤ (thick0 d m id).1) := by
  obtain ⟨hk, hm⟩ := partE_ok hp
  unfold thick0
  rw [h]
  dsimp only
  unfold madeB at hm
  by_cases k1 : aKind p = 1
  · rw [if_pos (show pKind p = 1 from k1)]
    rw [if_neg (by omega)] at hm
    refine ⟨rfl, fun h => by omega, fun _ => rfl, fun _ => ?_⟩
    split at hm
    · cases hm
    · rw [if_pos k1] at hm
      simp only [Bool.and_eq_true, decide_eq_true_eq] at hm
      exact hm.2.1.1
  · rw [if_neg (show ¬ pKind p = 1 from k1)]
    by_cases k4 : aKind p = 4
    · rw [if_neg (by rintro (h | h); exact absurd (k4.symm.trans h) (by decide); exact absurd (k4.symm.trans h) (by decide))]
      exact ⟨decide_eq_true k4, fun _ => rfl, fun h => absurd h k1, fun h => absurd k4 h⟩
    · rw [if_pos (show pKind p = 2 ∨ pKind p = 3 by rcases hk with h | h | h | h; exact absurd h k1; exact .inl h; exact .inr h; exact absurd h k4)]
      rw [if_neg k4] at hm
      split at hm
      · cases hm
      · rw [if_neg k1] at hm
        simp only [Bool.and_eq_true] at hm
        have hs := hm.2
        unfold secOk at hs
        cases he : secOf m (aSec p) with
        | none => rw [he] at hs; cases hs
        | some s =>
          rw [he] at hs
          simp only [Bool.and_eq_true, decide_eq_true_eq] at hs
          dsimp only
          rw [if_neg (by omega)]
          exact ⟨rfl, fun h => absurd h k4, fun h => absurd h k1, fun _ => secThick_pos s⟩
theorem fitting_at {d : TDesign} {id : ByteArray} {p : TPart} (h : partOf d id = some p) : fitting d id = decide (aKind p = 4) := by unfold fitting; rw [h]
end Go.Pv
set_option linter.unusedSimpArgs false
set_option linter.unusedVariables false
set_option maxRecDepth 100000
namespace Go.Pv
open Go Go.Proofs
theorem firstE_all {α : Type} {f : α → Int} : ∀ {l : List α}, (∀ x ∈ l, f x = 0) → firstE f l = 0
  | [], _ => rfl
  | a :: l, h => by unfold firstE; rw [if_pos (h a (by simp))]; exact firstE_all fun x hx => h x (by simp [hx])
def allP (m : TMaterials) (k : Int) : TProcedure := (⟨#[65, 108, 108]⟩, k, 1, 1000000, m.1.map (fun g => g.1), 1)
theorem secThick_le {s : TSection} (h1 : 1 ≤ s.2.1) (h2 : s.2.1 ≤ 1000000) (h3 : 1 ≤ s.2.2.1) : secThick s ≤ 1000000 := by
  have a1 : s.2.1.tdiv s.2.2.1 ≤ s.2.1 := Int.tdiv_le_self _ (by omega)
  have a2 : 0 ≤ s.2.1.tdiv s.2.2.1 := Int.tdiv_nonneg (by omega) (by omega)
  unfold secThick
  rw [wrap_id _ (by omega) (by omega)]
  split <;> omega
theorem thick0_le {d : TDesign} {m : TMaterials} {id : ByteArray} {p : TPart} (h : partOf d id = some p) (hp : partE p m = 0) : (thick0 d m id).1 ≤ 1000000 := by
  obtain ⟨hk, hm⟩ := partE_ok hp
  unfold thick0
  rw [h]
  dsimp only
  unfold madeB at hm
  by_cases k1 : aKind p = 1
  · rw [if_pos (show pKind p = 1 from k1)]
    rw [if_neg (by omega)] at hm
    split at hm
    · cases hm
    · rw [if_pos k1] at hm
      simp only [Bool.and_eq_true, decide_eq_true_eq] at hm
      have h2 : pThick p ≤ 120 := hm.2.1.2
      show pThick p ≤ 1000000
      omega
  · rw [if_neg (show ¬ pKind p = 1 from k1)]
    by_cases k4 : aKind p = 4
    · rw [if_neg (by rintro (h | h); exact absurd (k4.symm.trans h) (by decide); exact absurd (k4.symm.trans h) (by decide))]
      show (0 : Int) ≤ 1000000
      decide
    · rw [if_pos (show pKind p = 2 ∨ pKind p = 3 by rcases hk with h | h | h | h; exact absurd h k1; exact .inl h; exact .inr h; exact absurd h k4)]
      rw [if_neg k4] at hm
      split at hm
      · cases hm
      · rw [if_neg k1] at hm
        simp only [Bool.and_eq_true] at hm
        have hs := hm.2
        unfold secOk at hs
        cases he : secOf m (aSec p) with
        | none => rw [he] at hs; cases hs
        | some s =>
          rw [he] at hs
          simp only [Bool.and_eq_true, decide_eq_true_eq] at hs
          dsimp only
          rw [if_neg (by omega)]
          exact secThick_le hs.1.1 hs.1.2 hs.2.1
theorem grade_in {m : TMaterials} {p : TPart} (hp : partE p m = 0) : ∀ g ∈ gradeL p, hasS (m.1.map fun g => g.1) g = true := by
  intro g hg
  obtain ⟨hk, hm⟩ := partE_ok hp
  unfold gradeL at hg
  split at hg
  · cases hg
  · rename_i k4
    have hg : g = aGrade p := by simpa using hg
    subst hg
    unfold madeB at hm
    rw [if_neg k4] at hm
    split at hm
    · cases hm
    · rename_i x hx
      unfold gradeOf at hx
      obtain ⟨h1, h2⟩ := find_mem hx
      unfold hasS
      rw [List.any_eq_true]
      exact ⟨x.1, List.mem_map.2 ⟨x, h1, rfl⟩, decide_eq_true h2⟩
theorem for_at {d : TDesign} {m : TMaterials} (V : Valid d m) {k : Nat} (hk : k < d.2.2.2.1.length) : forE (allP m d.2.2.2.1[k].2.2.2.1) d m d.2.2.2.1[k].1 = 0 ∧ ∀ q, q ≠ d.2.2.2.1[k].2.2.2.1 → forE (allP m q) d m d.2.2.2.1[k].1 = 10 := by
  have hmem := List.getElem_mem hk
  have hse := V.seam _ hmem
  obtain ⟨_, hab, _, _, ha, hb⟩ := seamE_ok hse
  obtain ⟨pa, ha⟩ := Option.isSome_iff_exists.1 ha
  obtain ⟨pb, hb⟩ := Option.isSome_iff_exists.1 hb
  have hso : seamOf d d.2.2.2.1[k].1 = some d.2.2.2.1[k] := find_at V.seams k hk
  generalize d.2.2.2.1[k] = s at *
  have ea := (part_ok V ha).1
  have eb := (part_ok V hb).1
  obtain ⟨a1, a2, a3, a4⟩ := thick0_ok ha ea
  obtain ⟨b1, b2, b3, b4⟩ := thick0_ok hb eb
  have la := thick0_le ha ea
  have lb := thick0_le hb eb
  have hg : gradesL d s = gradeL pa ++ gradeL pb := by unfold gradesL; rw [ha, hb]; rfl
  have ht : (thick d m s.1).2 = true ∧ (thick d m s.1).1 ≤ 1000000 ∧ (gradesL d s ≠ [] → 1 ≤ (thick d m s.1).1) := by
    rw [hg]
    unfold thick
    rw [hso]
    dsimp only
    rw [if_pos ⟨a1, b1⟩, fitting_at ha, fitting_at hb]
    have g4 : ∀ {p : TPart}, aKind p = 4 → gradeL p = [] := fun h => by unfold gradeL; rw [if_pos h]
    by_cases ka : aKind pa = 4
    · rw [if_pos (decide_eq_true ka)]
      refine ⟨rfl, lb, fun h => b4 fun hc => h ?_⟩
      rw [g4 ka, g4 hc]; rfl
    · rw [if_neg (by rw [decide_eq_false ka]; decide)]
      by_cases kb : aKind pb = 4
      · rw [if_pos (decide_eq_true kb)]
        exact ⟨rfl, la, fun _ => a4 ka⟩
      · rw [if_neg (by rw [decide_eq_false kb]; decide)]
        have := a4 ka
        have := b4 kb
        refine ⟨rfl, ?_, fun _ => ?_⟩ <;> (dsimp only; split <;> omega)
  obtain ⟨t1, t2, t3⟩ := ht
  have w : ∀ q, forE (allP m q) d m s.1 = fitsE (allP m q) s.2.2.2.1 (if gradesL d s = [] then 1 else (thick d m s.1).1) (gradesL d s) := fun q => by
    unfold forE
    rw [hso]
    dsimp only
    rw [if_pos t1]; rfl
  refine ⟨?_, fun q hq => ?_⟩
  · rw [w]
    unfold fitsE
    rw [if_pos (show s.2.2.2.1 = (allP m s.2.2.2.1).2.1 from rfl)]
    have e1 : (1 : Int) ≤ if gradesL d s = [] then 1 else (thick d m s.1).1 := by
      split
      · decide
      · exact t3 ‹_›
    have e2 : (if gradesL d s = [] then 1 else (thick d m s.1).1) ≤ (1000000 : Int) := by
      split
      · decide
      · exact t2
    rw [if_pos (show (allP m s.2.2.2.1).2.2.1 ≤ _ from e1), if_pos (show _ ≤ (allP m s.2.2.2.1).2.2.2.1 from e2)]
    refine firstE_all fun x hx => ?_
    unfold lackE
    rw [hg] at hx
    rw [if_pos]
    rcases List.mem_append.1 hx with hx | hx
    · exact grade_in ea x hx
    · exact grade_in eb x hx
  · rw [w]
    unfold fitsE
    rw [if_neg (fun h => hq h.symm)]
end Go.Pv
set_option linter.unusedSimpArgs false
set_option linter.unusedVariables false
set_option maxRecDepth 100000
namespace Go.Pv
open Go Go.Proofs
set_option maxRecDepth 100000
noncomputable def E_lawAll : Env := Env.of [(4, .pure g_light), (5, .pure g_chkF), (7, .pure g_pforD), (6, .pure g_awake31)]
def H_lawAll : FuncId → Hint := fun f => match f == 3 with | true => ⟨fun r => match r == 5 with | true => .inv [.val 4 false (.int .i64), .box 1 yProcedure, .boc 1 4 1 .str] | false => match r == 9 with | true => .inv [.val 5 false (.int .i64), .box 1 yProcedure, .boc 1 4 1 .str] | false => .none, fun _ _ => none, fun _ => none⟩ | false => noHint
theorem Eok_lawAll : EnvOk Tryz.prog E_lawAll := EnvOk.cons (x := .pure g_light) fn_light (EnvOk.cons (x := .pure g_chkF) fn_chkF (EnvOk.cons (x := .pure g_pforD) fn_pforD (EnvOk.cons (x := .pure g_awake31) fn_awake31 (EnvOk.nil _))))
def F_lawAll (a0 : TShipyardlaw31Place) (R : T → Prop) : Prop :=
 callK [(false, Sy.bool)]
 (g_light [encV true yDesign a0.fst, T.v (Value.int IntKind.i64 40)]) fun (y0 : Bool) =>
 iteP (!y0)
 (callK [(false, Sy.bool)] (g_awake31 []) fun (y1 : Bool) => R (T.v (Value.bool y1)))
 (iteP (decide (40 < (↑(List.map yGrade.enc a0.snd.fst.fst).length : Int)))
 (callK [(false, Sy.bool)] (g_awake31 []) fun (y2 : Bool) => R (T.v (Value.bool y2)))
 (iteP (decide (40 < (↑(List.map ySection.enc a0.snd.fst.snd).length : Int)))
 (callK [(false, Sy.bool)] (g_awake31 []) fun (y3 : Bool) => R (T.v (Value.bool y3)))
 (callK [(false, Sy.int IntKind.i64)]
 (g_chkF [encV true yDesign a0.fst, encV true yMaterials a0.snd.fst])
 fun (y4 : Int) =>
 iteP (!decide (y4 = 0))
 (callK [(false, Sy.bool)] (g_awake31 []) fun (y5 : Bool) =>
 R (T.v (Value.bool y5)))
 (decK Sy.str [] fun (y6 : List ByteArray) =>
 loopK (Int × TProcedure × List ByteArray × PUnit)
 (fun (X7 : Int × TProcedure × List ByteArray × PUnit → Prop)
 (s8 : Int × TProcedure × List ByteArray × PUnit) =>
 iteP (decide (s8.fst < (↑(List.map yGrade.enc a0.snd.fst.fst).length : Int)))
 (rowsK yGrade (List.map yGrade.enc a0.snd.fst.fst) s8.fst
 fun (y9 : TGrade) =>
 reqK
 (decide (((List.map Sy.str.enc s8.snd.snd.fst).length + 1) * 16 ≤ 140737488355328) &&
 decide ((List.map Sy.str.enc s8.snd.snd.fst).length + 1 ≤ 140737488355328))
 (decK Sy.str [] fun (y10 : List ByteArray) =>
 decK Sy.str
 (List.map Sy.str.enc s8.snd.snd.fst ++ [[T.v (Value.string y9.fst)]])
 fun (y11 : List ByteArray) =>
 X7
 (IntKind.i64.wrap (s8.fst + 1),
 (s8.snd.fst.fst, s8.snd.fst.snd.fst, s8.snd.fst.snd.snd.fst, s8.snd.fst.snd.snd.snd.fst,
 y10, s8.snd.fst.snd.snd.snd.snd.snd),
 y11, ())))
 (decK Sy.str [] fun (y12 : List ByteArray) =>
 decK Sy.str (List.map Sy.str.enc s8.snd.snd.fst) fun (y13 : List ByteArray) =>
 loopK (Int × TProcedure × List ByteArray × PUnit)
 (fun (X14 : Int × TProcedure × List ByteArray × PUnit → Prop)
 (s15 : Int × TProcedure × List ByteArray × PUnit) =>
 iteP
 (decide (s15.fst < (↑(List.map ySeam.enc a0.fst.snd.snd.snd.fst).length : Int)))
 (rowsK ySeam (List.map ySeam.enc a0.fst.snd.snd.snd.fst) s15.fst
 fun (y16 : TSeam) =>
 callK [(false, Sy.int IntKind.i64)]
 (g_pforD
 [T.agg
 [T.v (Value.string s15.snd.fst.fst),
 T.v (Value.int IntKind.i64 y16.snd.snd.snd.fst),
 T.v (Value.int IntKind.i64 s15.snd.fst.snd.snd.fst),
 T.v (Value.int IntKind.i64 s15.snd.fst.snd.snd.snd.fst),
 T.sl false (List.map Sy.str.enc s15.snd.snd.fst),
 T.v (Value.int IntKind.i64 s15.snd.fst.snd.snd.snd.snd.snd)],
 encV true yDesign a0.fst, encV true yMaterials a0.snd.fst,
 T.v (Value.string y16.fst)])
 fun (y17 : Int) =>
 iteP (!decide (y17 = 0)) (R (T.v (Value.bool false)))
 (callK [(false, Sy.int IntKind.i64)]
 (g_pforD
 [T.agg
 [T.v (Value.string s15.snd.fst.fst),
 T.v
 (Value.int IntKind.i64
 (IntKind.i64.wrap (3 - y16.snd.snd.snd.fst))),
 T.v (Value.int IntKind.i64 s15.snd.fst.snd.snd.fst),
 T.v (Value.int IntKind.i64 s15.snd.fst.snd.snd.snd.fst),
 T.sl false (List.map Sy.str.enc s15.snd.snd.fst),
 T.v (Value.int IntKind.i64 s15.snd.fst.snd.snd.snd.snd.snd)],
 encV true yDesign a0.fst,
 encV true yMaterials a0.snd.fst,
 T.v (Value.string y16.fst)])
 fun (y18 : Int) =>
 iteP (!decide (y18 = 10)) (R (T.v (Value.bool false)))
 (decK Sy.str [] fun (y19 : List ByteArray) =>
 decK Sy.str (List.map Sy.str.enc s15.snd.snd.fst)
 fun (y20 : List ByteArray) =>
 X14
 (IntKind.i64.wrap (s15.fst + 1),
 (s15.snd.fst.fst, y16.snd.snd.snd.fst, s15.snd.fst.snd.snd.fst,
 s15.snd.fst.snd.snd.snd.fst, y19, s15.snd.fst.snd.snd.snd.snd.snd),
 y20, ()))))
 (callK [(false, Sy.bool)] (g_awake31 []) fun (y21 : Bool) =>
 R (T.v (Value.bool y21))))
 (0,
 (s8.snd.fst.fst, s8.snd.fst.snd.fst, s8.snd.fst.snd.snd.fst, s8.snd.fst.snd.snd.snd.fst,
 y12, s8.snd.fst.snd.snd.snd.snd.snd),
 y13, ())))
 (0, ({ data := #[65, 108, 108] }, 0, 1, 1000000, y6, 1), [], ())))))
theorem F_lawAll_eq (a0 : TShipyardlaw31Place) (R : T → Prop) : sxTop stdC2 Tryz.prog E_lawAll H_lawAll 8 3 [encV true yShipyardlaw31Place a0] R = F_lawAll a0 R := by kernel_rfl
abbrev s_lawAll : Sh := [(true, yShipyardlaw31Place)]
abbrev r_lawAll : Sh := [(false, Sy.bool)]
theorem r_lawAll_call (y : Sh.den r_lawAll) (K : Sh.den r_lawAll → Prop) : callK r_lawAll (some (Sh.enc r_lawAll y)) K = K y := callK_enc rfl y K

def sp_lawAll (x : TShipyardlaw31Place) : Option T := onlyD x.1 (T.v (Value.bool true))
noncomputable def g_lawAll : List T → Option (T) := gS s_lawAll sp_lawAll
theorem g_lawAll_at {a0 : TShipyardlaw31Place} : g_lawAll [encV true yShipyardlaw31Place a0] = sp_lawAll (a0) := gS_enc (s := s_lawAll) rfl (a0) rfl
theorem g_lawAll_op {u0 u1 u2 u3 u4 u5 u6 u7 u8} : g_lawAll [T.agg
    [T.v (Value.string u0), T.sl false (List.map yNode.enc u1),
      T.sl false (List.map yPart.enc u2),
      T.sl false (List.map ySeam.enc u3),
      T.sl false (List.map yPackage.enc u4),
      T.sl false (List.map yNeed.enc u5),
      T.sl false (List.map yGrade.enc u6),
      T.sl false (List.map ySection.enc u7), T.v (Value.string u8)]] = sp_lawAll (((u0, (u1, (u2, (u3, (u4, u5))))), ((u6, u7), u8))) := gS_enc (s := s_lawAll) rfl (((u0, (u1, (u2, (u3, (u4, u5))))), ((u6, u7), u8))) rfl
theorem of_lawAll (h : ∀ (a0 : TShipyardlaw31Place) (r : T), sp_lawAll (a0) = some r → BdSh s_lawAll (a0) → F_lawAll a0 (fun y => y = r)) : PureFn Tryz.prog 3 g_lawAll :=
  pureFn_S (E := E_lawAll) (Hs := H_lawAll) Eok_lawAll mixed' plain' (noHeap_of rfl) 8 ⟨_, _, Tryz.func3, rfl⟩ rfl fun x r h1 h2 => by
    let a0 := x
    rw [show Sh.encs s_lawAll (a0) = [encV true yShipyardlaw31Place a0] from rfl, F_lawAll_eq]
    exact h a0 r h1 h2

theorem awake31_call {K : Bool → Prop} (h : K true) : callK [(false, Sy.bool)] (g_awake31 []) K := callK_some (s := [(false, .bool)]) (y := true) rfl h
theorem allP_deep (m : TMaterials) (k : Int) : T.deep 4 (T.agg [T.v (Value.string ⟨#[65, 108, 108]⟩), T.v (Value.int .i64 k), T.v (Value.int .i64 1), T.v (Value.int .i64 1000000), T.sl false (List.map Sy.str.enc (m.1.map fun g => g.1)), T.v (Value.int .i64 1)]) = encV true yProcedure (allP m k) := by
  show T.agg [_, _, _, _, T.sl false ((List.map Sy.str.enc (m.1.map fun g => g.1)).map (fun r => r.map (T.deep 2))), _] = T.agg (yProcedure.enc (allP m k))
  rw [deep_strs]
  rfl
theorem fn_lawAll : PureFn Tryz.prog 3 g_lawAll := of_lawAll fun x r h hb => by
  obtain ⟨hok, rfl⟩ := onlyD_of h
  replace hok : okD x.1 = true := hok
  clear h
  unfold F_lawAll
  refine callK_some (s := [(false, .bool)]) (y := light x.1 40) (g_light_at ..) ?_
  refine ifNB (fun _ => awake31_call rfl) fun hv1 => ?_
  refine ifP (fun _ => awake31_call rfl) fun hv2 => ?_
  refine ifP (fun _ => awake31_call rfl) fun hv3 => ?_
  rw [List.length_map] at hv2 hv3
  refine callK_some (s := [(false, .int .i64)]) (y := chkF x.1 x.2.1) (g_chkF_at ..) ?_
  refine ifQ (fun _ => awake31_call rfl) fun hv4 => ?_
  have V : Valid x.1 x.2.1 := valid_ok (by
    unfold validE
    rw [hv1, decide_eq_true (show x.2.1.1.length ≤ 40 by omega), decide_eq_true (show x.2.1.2.length ≤ 40 by omega), decide_eq_true hv4]
    rfl)
  have hs := V.small
  rw [decK_nil]
  refine loopK_ix x.2.1.1.length (fun k s => s.1 = (k : Int) ∧ s.2.1 = (⟨#[65, 108, 108]⟩, 0, 1, 1000000, [], 1) ∧ s.2.2.1 = (x.2.1.1.take k).map fun g => g.1) ⟨rfl, rfl, by simp⟩ ?_
  rintro X k ⟨i, pr, l, u⟩ hk ⟨rfl, rfl, rfl⟩ hX
  dsimp only
  have hl : ((x.2.1.1.take k).map fun g => g.1).length ≤ 40 := by rw [List.length_map, List.length_take]; omega
  refine ifP (fun hlt => ?_) fun hge => ?_
  · rw [List.length_map] at hlt
    have hlt : k < x.2.1.1.length := by omega
    rw [rowsK_at (r := yGrade) hlt]
    refine ⟨?_, ?_⟩
    · simp only [Bool.and_eq_true, decide_eq_true_eq, List.length_map] at hl ⊢
      omega
    rw [decK_nil, dec_snoc]
    refine hX _ hlt ⟨by show IntKind.i64.wrap ((k : Int) + 1) = ((k + 1 : Nat) : Int); exact wrap_id _ (by omega) (by omega), rfl, ?_⟩
    rw [List.take_succ_eq_append_getElem hlt, List.map_append]; rfl
  · rw [List.length_map] at hge
    have : k = x.2.1.1.length := by omega
    subst this
    rw [List.take_length] at *
    rw [decK_nil, decK_map rfl]
    refine loopK_ix x.1.2.2.2.1.length (fun j s => s.1 = (j : Int) ∧ (∃ c, s.2.1 = (⟨#[65, 108, 108]⟩, c, 1, 1000000, [], 1)) ∧ s.2.2.1 = x.2.1.1.map fun g => g.1) ⟨rfl, ⟨_, rfl⟩, rfl⟩ ?_
    rintro Y j ⟨i, pr, l, u⟩ hj ⟨rfl, ⟨c, rfl⟩, rfl⟩ hY
    dsimp only
    refine ifP (fun hlt => ?_) fun _ => awake31_call rfl
    rw [List.length_map] at hlt
    have hlt : j < x.1.2.2.2.1.length := by omega
    rw [rowsK_at (r := ySeam) hlt]
    obtain ⟨f1, f2⟩ := for_at V hlt
    obtain ⟨_, _, hk, _⟩ := seamE_ok (V.seam _ (List.getElem_mem hlt))
    refine callK_some (s := [(false, .int .i64)]) (y := 0) ((pforD_call hok (allP_deep x.2.1 _)).trans (by rw [f1])) ?_
    refine iteP_nyes rfl ?_
    refine callK_some (s := [(false, .int .i64)]) (y := 10) ((pforD_call hok (allP_deep x.2.1 _)).trans (by rw [f2 _ (by rw [wrap_id _ (by omega) (by omega)]; omega)])) ?_
    refine iteP_nyes rfl ?_
    rw [decK_nil, decK_map rfl]
    refine hY _ hlt ⟨by show IntKind.i64.wrap ((j : Int) + 1) = ((j + 1 : Nat) : Int); exact wrap_id _ (by omega) (by omega), ⟨_, rfl⟩, rfl⟩
theorem all_in : ∀ x : TShipyardlaw31Place, InSh s_lawAll x → sp_lawAll x = some (.v (.bool true)) := fun x h => onlyD_ok _ (okD_inV h.1)
end Go.Pv
