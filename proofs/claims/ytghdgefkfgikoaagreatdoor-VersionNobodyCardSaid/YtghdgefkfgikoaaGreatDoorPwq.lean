/-
  The pure evaluator, part q: from a function that computes 'true' on all that can be read to the row's step.
-/
import Derived.Test.YtghdgefkfgikoaaGreatDoorPwp
import Derived.ProofKit
import Derived.OpenShut
import Derived.ShutString
import Derived.ChangeOld
import Derived.Below
import Derived.HandedShaped
set_option linter.unusedSimpArgs false
namespace Go.Pv
open Go Go.RowKit Go.WideShapes Go.ChangeShapes

/-- What a parameter of the type holds. -/
def TyV (P : Program) (t : TypeId) (a : T) : Prop :=
  match P.underlying t with
  | some (.struct _) | some (.array _ _) => ∃ ts, a = .agg ts ∧ Ty P t ts
  | _ => Ty P t [a]

section
variable {P : Program} {W : World} {H : Type} {enc : TypeId × Value → H}
theorem arg_rd {n : Nat} {base : Nat} {t : TypeId} {v : Value} {d : DataW H} {ps : List MemPlace} (hok : okT P n t = true) (hval : Value.okWide P W .any base t v) (h : DataW.Trod enc P W 0 (fun _ => true) true t v d ps)
    (hw : (d.weights P t).all (· ≤ reachBytes) = true) : ∃ a : T, RdN W a v ∧ TyV P t a := by
  obtain ⟨fuel, h⟩ := h
  obtain ⟨h1, ts, h2, h3⟩ := trod_rd n fuel t _ _ hok h hw
  have one : (∀ cs, v ≠ .agg cs) → ∃ a, ts = [a] ∧ RdN W a v := by
    intro hne
    have hc : v.cells = #[v] := by cases v <;> first | rfl | exact absurd rfl (hne _)
    rw [hc] at h2
    have hl : ts.length = 1 := by have := h2.1; simpa using this.symm
    obtain ⟨a, rfl⟩ := List.length_eq_one_iff.1 hl
    have := h2.2 0 (by simp)
    exact ⟨a, rfl, by simpa using this⟩
  unfold TyV
  unfold Value.okWide at hval
  split at hval
  · rename_i fs hu
    obtain ⟨cs, rfl, _⟩ := hval
    refine ⟨.agg ts, ?_, ?_⟩
    · have h2' : RdA (RdN W) ts cs := by simpa [Value.cells] using h2
      exact .agg ts cs h2'.1 h2'.2
    · simp only [hu]; exact ⟨ts, rfl, h3⟩
  · rename_i m e hu
    obtain ⟨cs, rfl, _⟩ := hval
    refine ⟨.agg ts, ?_, ?_⟩
    · have h2' : RdA (RdN W) ts cs := by simpa [Value.cells] using h2
      exact .agg ts cs h2'.1 h2'.2
    · simp only [hu]; exact ⟨ts, rfl, h3⟩
  · rename_i hns hna
    have hne : ∀ cs, v ≠ .agg cs := by
      rintro cs rfl
      cases h3 with
      | bool _ b hu => simp [Cell.okWide, Cell.ok, hu] at hval
      | int _ k m hu _ => simp [Cell.okWide, Cell.ok, hu] at hval
      | string _ s hu _ => simp [Cell.okWide, Cell.ok, hu] at hval
      | slice _ e a f rows hu => simp [Cell.okWide, Cell.ok, hu] at hval
      | parts _ pl _ _ hpl =>
        unfold partsOf at hpl
        split at hpl
        · rename_i fs hu; exact hns fs hu
        · rename_i m e hu; exact hna m e hu
        · cases hpl
    obtain ⟨a, rfl, ha⟩ := one hne
    refine ⟨a, ha, ?_⟩
    split
    · rename_i fs hu; exact absurd hu (hns fs)
    · rename_i m e hu; exact absurd hu (hna m e)
    · exact h3

theorem trodAll_below {W' : World} (hl : laidOutB P = true) (hb : Below W.heap.size W W') : ∀ {ts : List TypeId} {vs : List Value} {ds : List (DataW H)} {ps : List MemPlace}, (∀ t ∈ ts, P.readableRec t = true ∧ t < P.types.size) →
    DataW.TrodAll enc P W 0 (fun _ => true) true ts vs ds ps → DataW.TrodAll enc P W' 0 (fun b => decide (b < W.heap.size)) true ts vs ds ps
  | [], [], [], ps, _, h => h
  | t :: ts, v :: vs, d :: ds, ps, hr, h => by
    obtain ⟨p, q, h1, h2, e⟩ := h
    have hlt : ∀ x ∈ p, x.block < W.heap.size := by obtain ⟨m, hm⟩ := h1; exact DataW.trod_lt m _ _ _ hm
    exact ⟨p, q, Below.trod hl (hr t (by simp)).1 (hr t (by simp)).2 h1 hb hlt, trodAll_below hl hb (fun t ht => hr t (by simp [ht])) h2, e⟩
  | [], [], _ :: _, _, _, h => h.elim
  | [], _ :: _, _, _, _, h => by cases h
  | _ :: _, [], _, _, _, h => by cases h
  | _ :: _, _ :: _, [], _, _, h => by cases h

inductive TyAll (P : Program) : List TypeId → List T → Prop
  | nil : TyAll P [] []
  | cons {t : TypeId} {a : T} {ts : List TypeId} {as : List T} : TyV P t a → TyAll P ts as → TyAll P (t :: ts) (a :: as)

theorem args_rd {n base : Nat} : ∀ {ts : List TypeId} {vs : List Value} {ds : List (DataW H)} {ps : List MemPlace}, (∀ t ∈ ts, okT P n t = true) → (∀ (j : Nat) (t : TypeId) (v : Value), ts[j]? = some t → vs[j]? = some v → Value.okWide P W .any base t v) →
    DataW.TrodAll enc P W 0 (fun _ => true) true ts vs ds ps → (DataW.weightsEach P ts ds).all (· ≤ reachBytes) = true → ∃ as, RdA (RdN W) as vs.toArray ∧ TyAll P ts as
  | [], [], [], ps, _, _, _, _ => ⟨[], RdA.nil, .nil⟩
  | t :: ts, v :: vs, d :: ds, ps, hok, hval, h, hw => by
    obtain ⟨p, q, h1, h2, e⟩ := h
    simp only [DataW.weightsEach, List.all_append, Bool.and_eq_true] at hw
    obtain ⟨a, ha, hta⟩ := arg_rd (hok t (by simp)) (hval 0 t v (by simp) (by simp)) h1 hw.1
    obtain ⟨as, has, htas⟩ := args_rd (fun t ht => hok t (by simp [ht])) (fun j t v ht hv => hval (j + 1) t v (by simpa using ht) (by simpa using hv)) h2 hw.2
    have := (RdA.one (R := RdN W) ha).append has
    exact ⟨a :: as, by simpa using this, .cons hta htas⟩
  | [], [], _ :: _, _, _, _, h, _ => h.elim
  | [], _ :: _, _, _, _, _, h, _ => by cases h
  | _ :: _, [], _, _, _, _, h, _ => by cases h
  | _ :: _, _ :: _, [], _, _, _, h, _ => by cases h

theorem trodAll_len : ∀ {ts : List TypeId} {vs : List Value} {ds : List (DataW H)} {ps : List MemPlace}, DataW.TrodAll enc P W 0 (fun _ => true) true ts vs ds ps → ds.length = ts.length
  | [], [], [], _, _ => rfl
  | _ :: ts, _ :: vs, _ :: ds, _, h => by
    obtain ⟨p, q, _, h2, _⟩ := h
    simp [trodAll_len h2]
  | [], [], _ :: _, _, h => h.elim
  | [], _ :: _, _, _, h => by cases h
  | _ :: _, [], _, _, h => by cases h
  | _ :: _, _ :: _, [], _, h => by cases h
end

theorem good_of {P : Program} {W : World} (hl : decide (P.globals.size < P.low) = true) (h : W.ShapedOpen P) : Good P W := by
  refine ⟨h, ?_⟩
  have hl : P.globals.size < P.low := of_decide_eq_true hl
  obtain ⟨o, o₀, h1, _⟩ := h.2 (P.low - 1) (by omega) (by
    have : P.low = (begin P (fun _ _ => 0) default).world.heap.size := rfl
    omega)
  have := (Array.getElem?_eq_some_iff.1 h1).1
  omega
/-- A law: a function of data that answers one bool. -/
theorem law_in {C : Checked} {f : FuncId} {fn : Func} {s : ChangeSpec} {g : List T → Option T} {tb : TypeId} {n : Nat} (own : ownKnob C.prog.godebug = none) (laid : laidOutB C.prog = true) (hlow : decide (C.prog.globals.size < C.prog.low) = true) (noInit : C.prog.inits.idxOf? f = none) (hfn : C.prog.funcs[f]? = some fn)
    (hres : fn.resultTypes = #[tb]) (hbool : C.prog.underlying tb = some .bool) (hvars : s.vars = [])
    (hs : ∀ (H : Type) (ds : List (DataW H)), ds.length = fn.params.size → (s.fn H (ds ++ [])).results = [.lit (.bool true)] ∧ (s.fn H (ds ++ [])).args = ds ∧ (s.fn H (ds ++ [])).vars = [])
    (hpar : ∀ t ∈ fn.params.toList, okT C.prog n t = true ∧ C.prog.readableRec t = true ∧ t < C.prog.types.size) (hg : PureFn C.prog f g) (hT : ∀ as, TyAll C.prog fn.params.toList as → g as = some (.v (.bool true)))
    (hplain : s.plain.varTypes C.prog = [])
    (os : Os) (started : os.Started) (H : Type) (enc : TypeId × Value → H)
    (witness : ∃ (w : World) (tape : Tape) (i : Input), w.os = os ∧ (w.forCall tape i).Shaped C.prog ∧ i.vars = [] ∧ Input.okWide C.prog (w.forCall tape i) .any w.heap.size f i ∧
      s.pre6 enc C.prog fn [] false (w.forCall tape i).memory i.args ∧ ({} : Assume).holds C.prog (lone (Frame.enter C.prog f i.args .normal) [] (w.forCall tape i))) :
    ReturnsInHanded {} C os f .any (s.pre6 enc C.prog fn [] false) (s.post enc C.prog fn false true false false) := by
  refine returnsInHanded_of_change_shaped own started noInit hfn witness ?_
  intro W base args ds gs before hval hW hcnd hsz hsh _
  have hW' := hW
  obtain ⟨p, q, hA, hV, rfl, hfz, hnd⟩ := hW
  rw [hvars] at hV
  have hgs : gs = [] ∧ q = [] := by
    cases gs with
    | nil => exact ⟨rfl, hV⟩
    | cons _ _ => exact hV.elim
  obtain ⟨rfl, rfl⟩ := hgs
  have hw : (DataW.weightsEach C.prog fn.params.toList ds).all (· ≤ reachBytes) = true := by
    rw [hplain] at hsz
    simpa using hsz
  obtain ⟨as, has, hty⟩ := args_rd (fun t ht => (hpar t ht).1) (fun j t v ht hv => hval j t v (by simpa using ht) (by simpa using hv)) hA hw
  have hlen := trodAll_len hA
  refine (hg.calls W (fun _ => False) as args (.v (.bool true)) (good_of hlow hsh) (fun b h => h.elim) (by simpa using has) (hT as hty)).mono ?_
  rintro e W' ⟨v, rfl, hv, bel⟩
  cases hv
  obtain ⟨s1, s2, s3⟩ := hs H ds (by simpa using hlen)
  refine ⟨_, rfl, _, _, _, [], p, [], hW', ?_, ?_, ?_, bel.frame _, fun h => by cases h⟩
  · rw [s1, hres]
    exact trodAll_mk1 (shut_bool hbool _)
  · rw [s2]
    exact trodAll_below laid bel (fun t ht => (hpar t ht).2) hA
  · rw [s3, hvars]
    rfl
end Go.Pv
