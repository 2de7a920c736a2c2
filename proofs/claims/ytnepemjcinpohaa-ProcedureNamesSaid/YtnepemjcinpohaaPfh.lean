/-
  Designs: parts and seams, found by name.
-/
import Derived.Test.YtnepemjcinpohaaPfg
set_option linter.unusedSimpArgs false
namespace Go.Pv
open Go Go.Proofs

/-! ### Records -/
def rowsOf (t : T) : List (List T) := match rowsT t with
  | some (_, r) => r
  | none => []
/-- Any list. -/
def listOk (t : T) : Bool := (rowsT t).isSome
theorem listOk_spec {t : T} (h : listOk t = true) : (∃ f, rowsT t = some (f, rowsOf t)) ∧ t.leaf = true ∧ t.cells = [t] := by
  unfold listOk at h
  obtain ⟨⟨f, r⟩, hr⟩ := Option.isSome_iff_exists.1 h
  exact ⟨⟨f, by simp [rowsOf, hr]⟩, rowsT_leaf hr, rowsT_cells hr⟩
/-- A list that may be copied. -/
def listOkC (z b : Nat) (t : T) : Bool := match rowsT t with
  | some (_, r) => copyOk z b r
  | none => false
theorem listOkC_spec {z b : Nat} {t : T} (h : listOkC z b t = true) : (∃ f, rowsT t = some (f, rowsOf t)) ∧ copyOk z b (rowsOf t) = true ∧ t.leaf = true ∧ t.cells = [t] := by
  unfold listOkC at h
  split at h
  · rename_i f r hr
    have e : rowsOf t = r := by simp [rowsOf, hr]
    rw [e]
    exact ⟨⟨f, hr⟩, h, rowsT_leaf hr, rowsT_cells hr⟩
  · cases h
theorem listOkC_clone {z b : Nat} {t : T} (h : listOkC z b t = true) : gClone z b [t] = some (.sl false (rowsOf t)) := by
  obtain ⟨⟨f, hr⟩, hc, _⟩ := listOkC_spec h
  simp [gClone, gRows, hr, hc]
def encH (t : T) : List T := [t]
def decH : List T → Option T
  | [h] => if listOkC 2 16 h = true then some h else none
  | _ => none
theorem decH_spec (r : List T) (h : T) (hd : decH r = some h) : r = encH h := by
  unfold decH at hd
  split at hd
  · split at hd
    · cases hd; rfl
    · cases hd
  · cases hd
theorem decH_ok {r : List T} {h : T} (hd : decH r = some h) : listOkC 2 16 h = true := by
  unfold decH at hd
  split at hd
  · split at hd
    · rename_i hh; cases hd; exact hh
    · cases hd
  · cases hd
def holesOk (t : T) : Bool := match asL decH t with
  | some hs => decide (hs.length * 24 ≤ 140737488355328)
  | none => false
def holes (t : T) : List T := (asL decH t).getD []
theorem holesOk_spec {t : T} (h : holesOk t = true) : asL decH t = some (holes t) ∧ (holes t).length * 24 ≤ 140737488355328 ∧ (∃ f, rowsT t = some (f, (holes t).map encH)) ∧ (∀ x ∈ holes t, listOkC 2 16 x = true) ∧ t.leaf = true ∧ t.cells = [t] := by
  unfold holesOk at h
  split at h
  · rename_i l hl
    have e : holes t = l := by simp [holes, hl]
    rw [e]
    exact ⟨hl, by simpa using h, asL_spec decH_spec hl, fun x hx => decH_ok (asL_dec decH_spec hl x hx), asL_leaf hl⟩
  · cases h

structure Part where
  id : ByteArray
  rev : Int
  kind : Int
  node : ByteArray
  grade : ByteArray
  thick : Int
  outer : T
  holes : T
  section_ : ByteArray
  length : Int
  mass : Int
  c1 : Int
  c2 : Int
  c3 : Int
  a1 : Int
  a2 : Int
  a3 : Int
  turn : Int
def encPart' (p : Part) (o h : T) : List T := [sT p.id, iT p.rev, iT p.kind, sT p.node, sT p.grade, iT p.thick, o, h, sT p.section_, iT p.length, iT p.mass, iT p.c1, iT p.c2, iT p.c3, iT p.a1, iT p.a2, iT p.a3, iT p.turn]
def encPart (p : Part) : List T := encPart' p p.outer p.holes
def decPart : List T → Option Part
  | [.v (.string id), .v (.int .i64 rev), .v (.int .i64 kind), .v (.string node), .v (.string grade), .v (.int .i64 thick), o, h, .v (.string sec), .v (.int .i64 len), .v (.int .i64 mass),
     .v (.int .i64 c1), .v (.int .i64 c2), .v (.int .i64 c3), .v (.int .i64 a1), .v (.int .i64 a2), .v (.int .i64 a3), .v (.int .i64 turn)] =>
    if listOkC 2 16 o = true ∧ holesOk h = true then some ⟨id, rev, kind, node, grade, thick, o, h, sec, len, mass, c1, c2, c3, a1, a2, a3, turn⟩ else none
  | _ => none
theorem decPart_spec (r : List T) (p : Part) (h : decPart r = some p) : r = encPart p := by
  unfold decPart at h
  split at h
  · split at h
    · cases h; rfl
    · cases h
  · cases h
theorem decPart_ok {r : List T} {p : Part} (h : decPart r = some p) : listOkC 2 16 p.outer = true ∧ holesOk p.holes = true := by
  unfold decPart at h
  split at h
  · split at h
    · rename_i hh; cases h; exact hh
    · cases h
  · cases h
abbrev asParts := asL decPart
abbrev asSeams := asL decSeam
def noPart : T := .agg [sT { data := #[] }, iT 0, iT 0, sT { data := #[] }, sT { data := #[] }, iT 0, .sl false [], .sl false [], sT { data := #[] }, iT 0, iT 0, iT 0, iT 0, iT 0, iT 0, iT 0, iT 0, iT 0]
def noSeam : T := .agg [sT { data := #[] }, sT { data := #[] }, sT { data := #[] }, iT 0, iT 0, iT 0]

structure Design where
  hull : ByteArray
  nodes : T
  parts : T
  seams : T
  packs : T
  needs : T
def encDesign (d : Design) : List T := [sT d.hull, d.nodes, d.parts, d.seams, d.packs, d.needs]
def dParts (d : Design) : List Part := (asParts d.parts).getD []
def dSeams (d : Design) : List Seam := (asSeams d.seams).getD []
def decDesign : List T → Option Design
  | [.v (.string hull), n, p, s, k, d] => if listOk n = true ∧ (asParts p).isSome = true ∧ (asSeams s).isSome = true ∧ listOk k = true ∧ listOk d = true then some ⟨hull, n, p, s, k, d⟩ else none
  | _ => none
theorem decDesign_spec (r : List T) (d : Design) (h : decDesign r = some d) : r = encDesign d := by
  unfold decDesign at h
  split at h
  · split at h
    · cases h; rfl
    · cases h
  · cases h
structure DesignOk (d : Design) : Prop where
  nodes : listOk d.nodes = true
  packs : listOk d.packs = true
  needs : listOk d.needs = true
  parts : asParts d.parts = some (dParts d)
  seams : asSeams d.seams = some (dSeams d)
theorem decDesign_ok {r : List T} {d : Design} (h : decDesign r = some d) : DesignOk d := by
  unfold decDesign at h
  split at h
  · split at h
    · rename_i hh
      cases h
      obtain ⟨h1, h2, h3, h4, h5⟩ := hh
      obtain ⟨p, hp⟩ := Option.isSome_iff_exists.1 h2
      obtain ⟨s, hs⟩ := Option.isSome_iff_exists.1 h3
      exact ⟨h1, h4, h5, by simp [dParts, hp], by simp [dSeams, hs]⟩
    · cases h
  · cases h
/-- The facts that a walk over a design needs. -/
theorem DesignOk.leaves {d : Design} (h : DesignOk d) : (d.nodes.leaf = true ∧ d.parts.leaf = true ∧ d.seams.leaf = true ∧ d.packs.leaf = true ∧ d.needs.leaf = true) ∧
    (d.nodes.cells = [d.nodes] ∧ d.parts.cells = [d.parts] ∧ d.seams.cells = [d.seams] ∧ d.packs.cells = [d.packs] ∧ d.needs.cells = [d.needs]) :=
  ⟨⟨(listOk_spec h.nodes).2.1, (asL_leaf h.parts).1, (asL_leaf h.seams).1, (listOk_spec h.packs).2.1, (listOk_spec h.needs).2.1⟩,
   ⟨(listOk_spec h.nodes).2.2, (asL_leaf h.parts).2, (asL_leaf h.seams).2, (listOk_spec h.packs).2.2, (listOk_spec h.needs).2.2⟩⟩

/-! ### Seams -/
def seamT (s : Seam) : T := .agg (encSeam s)
def gSeam : List T → Option T
  | [.agg d, .v (.string id)] => (decDesign d).map fun d => match (dSeams d).find? (fun s => decide (s.id = id)) with
    | some s => .tup [seamT s, bT true]
    | none => .tup [noSeam, bT false]
  | _ => none
theorem fn_seam : PureFn Try.prog 35 gSeam := by
  refine pureFn_of (E := []) (EnvOk.nil _) mixed Try.func35 (by kernel_rfl) (c := _) rfl fun args r h => ?_
  unfold gSeam at h
  split at h
  · rename_i dr id
    simp only [Option.map_eq_some_iff] at h
    obtain ⟨d, hd, rfl⟩ := h
    have hok := decDesign_ok hd
    obtain ⟨⟨l1, l2, l3, l4, l5⟩, ⟨e1, e2, e3, e4, e5⟩⟩ := hok.leaves
    have hd' := decDesign_spec _ _ hd
    subst hd'
    obtain ⟨f, hr⟩ := asL_spec decSeam_spec hok.seams
    refine ⟨by simp [Try.ntmps35], fun hbd => ?_⟩
    have hlen : (dSeams d).length ≤ 2 ^ 47 := by
      have h1 := hbd (.agg (encDesign d)) (by simp)
      have h2 := (Bd_agg _).1 h1 d.seams (by simp [encDesign])
      simpa using Bd_rows h2 hr
    rw [Try.ntmps35, Try.results35]
    (repeat (first | refine W_nil ?_ | (refine W_u fun N hN => ?_; simp [stepU, stepG, putQ, guardD, isQuiet, qv, nv, ev, stripS, strip, putS, upd_apply, st0, lenD, binD, binV, intBin, strBin, unD, indexAddrD, indexD, loadD, fieldD, fieldValD, partD, pickD, extractD, buildD, fillD, splice, mkAgg, allT, toT, D.cells, D.leaf, Value.cells, Value.oneCell', varBox, storeD, buildSliceD, pureRow, mkFn, convD, mmD, mmV, sliceD, bndD, okHead, calleeD, callD, Env.get, Env.getF, callF, frz, T.flat, appendD, rowsX, widthOk, rangeD, nextD, goInt, encDesign, l1, l2, l3, l4, l5, e1, e2, e3, e4, e5, hr]; refine hN _ ?_; clear hN N) | (refine W_g rfl fun N hN => ?_; simp [stepU, stepG, putQ, guardD, isQuiet, qv, nv, ev, stripS, strip, putS, upd_apply, st0, lenD, binD, binV, intBin, strBin, unD, indexAddrD, indexD, loadD, fieldD, fieldValD, partD, pickD, extractD, buildD, fillD, splice, mkAgg, allT, toT, D.cells, D.leaf, Value.cells, Value.oneCell', varBox, storeD, buildSliceD, pureRow, mkFn, convD, mmD, mmV, sliceD, bndD, okHead, calleeD, callD, Env.get, Env.getF, callF, frz, T.flat, appendD, rowsX, widthOk, rangeD, nextD, goInt, encDesign, l1, l2, l3, l4, l5, e1, e2, e3, e4, e5, hr]; refine hN _ ?_; clear hN N) | refine W_assoc ?_ | refine W_sskip ?_ | refine W_skip ?_ | refine W_sblock ?_ | refine W_block ?_ | refine W_sret ?_ | refine W_ret ?_ | refine W_sexit ?_ | refine W_exit ?_ | refine W_sreg (by first | exact .inl rfl | exact .inr (by kernel_rfl)) ?_ | refine W_reg (by first | exact .inl rfl | exact .inr (by kernel_rfl)) ?_))
    generalize hl : dSeams d = l at *
    refine wpc_loop (fun m st => ∃ k : Nat, k ≤ l.length ∧ m = l.length - k ∧ 2 ≤ st.n ∧ st.s 1 = .p (.v (.string id)) ∧ st.s 4 = .ptr 1 0 0 ∧ st.σ 1 = some (.rows [[.p (sT { data := #[] }), .p (sT { data := #[] }), .p (sT { data := #[] }), .p (iT 0), .p (iT 0), .p (iT 0)]]) ∧ st.s 5 = .p (bT false) ∧ st.s 9 = .p d.seams ∧ st.s 10 = .p (.v (.int .i64 l.length)) ∧ st.s 11 = .p (.v (.int .i64 k)) ∧ (l.drop k).find? (fun s => decide (s.id = id)) = l.find? (fun s => decide (s.id = id))) l.length ⟨0, by simp, by simp, by simp, by simp [upd_apply], by simp [upd_apply], by simp [upd_apply], by simp [upd_apply], by simp [upd_apply], by simp [upd_apply], by simp [upd_apply], by simp⟩ ?_
    rintro m st ⟨k, hk, rfl, hn, h1, h4, hb1, h5, h9, h10, h11, hno⟩
    have n1 : ¬ (1 = st.n) := by omega
    have n2 : ¬ (st.n = 1) := by omega
    (repeat (first | refine W_nil ?_ | (refine W_u fun N hN => ?_; simp [stepU, stepG, putQ, guardD, isQuiet, qv, nv, ev, stripS, strip, putS, upd_apply, st0, lenD, binD, binV, intBin, strBin, unD, indexAddrD, indexD, loadD, fieldD, fieldValD, partD, pickD, extractD, buildD, fillD, splice, mkAgg, allT, toT, D.cells, D.leaf, Value.cells, Value.oneCell', varBox, storeD, buildSliceD, pureRow, mkFn, convD, mmD, mmV, sliceD, bndD, okHead, calleeD, callD, Env.get, Env.getF, callF, frz, T.flat, appendD, rowsX, widthOk, rangeD, nextD, goInt, h9, h10, h11]; refine hN _ ?_; clear hN N) | (refine W_g rfl fun N hN => ?_; simp [stepU, stepG, putQ, guardD, isQuiet, qv, nv, ev, stripS, strip, putS, upd_apply, st0, lenD, binD, binV, intBin, strBin, unD, indexAddrD, indexD, loadD, fieldD, fieldValD, partD, pickD, extractD, buildD, fillD, splice, mkAgg, allT, toT, D.cells, D.leaf, Value.cells, Value.oneCell', varBox, storeD, buildSliceD, pureRow, mkFn, convD, mmD, mmV, sliceD, bndD, okHead, calleeD, callD, Env.get, Env.getF, callF, frz, T.flat, appendD, rowsX, widthOk, rangeD, nextD, goInt, h9, h10, h11]; refine hN _ ?_; clear hN N) | refine W_assoc ?_ | refine W_sskip ?_ | refine W_skip ?_ | refine W_sblock ?_ | refine W_block ?_ | refine W_sret ?_ | refine W_ret ?_ | refine W_sexit ?_ | refine W_exit ?_ | refine W_sreg (by first | exact .inl rfl | exact .inr (by kernel_rfl)) ?_ | refine W_reg (by first | exact .inl rfl | exact .inr (by kernel_rfl)) ?_))
    (first | (refine W_scond fun A B hA hB => ?_) | (refine W_cond fun A B hA hB => ?_)); simp [ev, stripS, strip, upd_apply]; refine condQ_bool (fun hc => hA ?_) (fun hc => hB ?_) <;> clear hA hB A B
    · have hlt : k < l.length := by simpa using hc
      have hlk : l[k]? = some l[k] := by simp [hlt]
      rw [drop_cons hlt] at hno
      simp only [List.find?_cons] at hno
      generalize hp : l[k] = s at *
      clear hc
      (repeat (first | refine W_nil ?_ | (refine W_u fun N hN => ?_; simp [stepU, stepG, putQ, guardD, isQuiet, qv, nv, ev, stripS, strip, putS, upd_apply, st0, lenD, binD, binV, intBin, strBin, unD, indexAddrD, indexD, loadD, fieldD, fieldValD, partD, pickD, extractD, buildD, fillD, splice, mkAgg, allT, toT, D.cells, D.leaf, Value.cells, Value.oneCell', varBox, storeD, buildSliceD, pureRow, mkFn, convD, mmD, mmV, sliceD, bndD, okHead, calleeD, callD, Env.get, Env.getF, callF, frz, T.flat, appendD, rowsX, widthOk, rangeD, nextD, goInt, h1, h4, h9, h10, h11, hr, hlk, encSeam, hb1, n1, n2]; refine hN _ ?_; clear hN N) | (refine W_g rfl fun N hN => ?_; simp [stepU, stepG, putQ, guardD, isQuiet, qv, nv, ev, stripS, strip, putS, upd_apply, st0, lenD, binD, binV, intBin, strBin, unD, indexAddrD, indexD, loadD, fieldD, fieldValD, partD, pickD, extractD, buildD, fillD, splice, mkAgg, allT, toT, D.cells, D.leaf, Value.cells, Value.oneCell', varBox, storeD, buildSliceD, pureRow, mkFn, convD, mmD, mmV, sliceD, bndD, okHead, calleeD, callD, Env.get, Env.getF, callF, frz, T.flat, appendD, rowsX, widthOk, rangeD, nextD, goInt, h1, h4, h9, h10, h11, hr, hlk, encSeam, hb1, n1, n2]; refine hN _ ?_; clear hN N) | refine W_assoc ?_ | refine W_sskip ?_ | refine W_skip ?_ | refine W_sblock ?_ | refine W_block ?_ | refine W_sret ?_ | refine W_ret ?_ | refine W_sexit ?_ | refine W_exit ?_ | refine W_sreg (by first | exact .inl rfl | exact .inr (by kernel_rfl)) ?_ | refine W_reg (by first | exact .inl rfl | exact .inr (by kernel_rfl)) ?_))
      (first | (refine W_scond fun A B hA hB => ?_) | (refine W_cond fun A B hA hB => ?_)); simp [ev, stripS, strip, upd_apply, h1]; refine condQ_bool (fun hc => hA ?_) (fun hc => hB ?_) <;> clear hA hB A B
      · rw [hc] at hno
        (repeat (first | refine W_nil ?_ | (refine W_u fun N hN => ?_; simp [stepU, stepG, putQ, guardD, isQuiet, qv, nv, ev, stripS, strip, putS, upd_apply, st0, lenD, binD, binV, intBin, strBin, unD, indexAddrD, indexD, loadD, fieldD, fieldValD, partD, pickD, extractD, buildD, fillD, splice, mkAgg, allT, toT, D.cells, D.leaf, Value.cells, Value.oneCell', varBox, storeD, buildSliceD, pureRow, mkFn, convD, mmD, mmV, sliceD, bndD, okHead, calleeD, callD, Env.get, Env.getF, callF, frz, T.flat, appendD, rowsX, widthOk, rangeD, nextD, goInt, h4, hb1, n1, n2]; refine hN _ ?_; clear hN N) | (refine W_g rfl fun N hN => ?_; simp [stepU, stepG, putQ, guardD, isQuiet, qv, nv, ev, stripS, strip, putS, upd_apply, st0, lenD, binD, binV, intBin, strBin, unD, indexAddrD, indexD, loadD, fieldD, fieldValD, partD, pickD, extractD, buildD, fillD, splice, mkAgg, allT, toT, D.cells, D.leaf, Value.cells, Value.oneCell', varBox, storeD, buildSliceD, pureRow, mkFn, convD, mmD, mmV, sliceD, bndD, okHead, calleeD, callD, Env.get, Env.getF, callF, frz, T.flat, appendD, rowsX, widthOk, rangeD, nextD, goInt, h4, hb1, n1, n2]; refine hN _ ?_; clear hN N) | refine W_assoc ?_ | refine W_sskip ?_ | refine W_skip ?_ | refine W_sblock ?_ | refine W_block ?_ | refine W_sret ?_ | refine W_ret ?_ | refine W_sexit ?_ | refine W_exit ?_ | refine W_sreg (by first | exact .inl rfl | exact .inr (by kernel_rfl)) ?_ | refine W_reg (by first | exact .inl rfl | exact .inr (by kernel_rfl)) ?_))
        refine ⟨by simp, ?_⟩
        simp [resD, resL, loadD, frz, strip, upd_apply, T.canon, mkAgg, allT, toT, ← hno, seamT, encSeam, h4, n1]
      · rw [hc] at hno
        (repeat (first | refine W_nil ?_ | (refine W_u fun N hN => ?_; simp [stepU, stepG, putQ, guardD, isQuiet, qv, nv, ev, stripS, strip, putS, upd_apply, st0, lenD, binD, binV, intBin, strBin, unD, indexAddrD, indexD, loadD, fieldD, fieldValD, partD, pickD, extractD, buildD, fillD, splice, mkAgg, allT, toT, D.cells, D.leaf, Value.cells, Value.oneCell', varBox, storeD, buildSliceD, pureRow, mkFn, convD, mmD, mmV, sliceD, bndD, okHead, calleeD, callD, Env.get, Env.getF, callF, frz, T.flat, appendD, rowsX, widthOk, rangeD, nextD, goInt, h11]; refine hN _ ?_; clear hN N) | (refine W_g rfl fun N hN => ?_; simp [stepU, stepG, putQ, guardD, isQuiet, qv, nv, ev, stripS, strip, putS, upd_apply, st0, lenD, binD, binV, intBin, strBin, unD, indexAddrD, indexD, loadD, fieldD, fieldValD, partD, pickD, extractD, buildD, fillD, splice, mkAgg, allT, toT, D.cells, D.leaf, Value.cells, Value.oneCell', varBox, storeD, buildSliceD, pureRow, mkFn, convD, mmD, mmV, sliceD, bndD, okHead, calleeD, callD, Env.get, Env.getF, callF, frz, T.flat, appendD, rowsX, widthOk, rangeD, nextD, goInt, h11]; refine hN _ ?_; clear hN N) | refine W_assoc ?_ | refine W_sskip ?_ | refine W_skip ?_ | refine W_sblock ?_ | refine W_block ?_ | refine W_sret ?_ | refine W_ret ?_ | refine W_sexit ?_ | refine W_exit ?_ | refine W_sreg (by first | exact .inl rfl | exact .inr (by kernel_rfl)) ?_ | refine W_reg (by first | exact .inl rfl | exact .inr (by kernel_rfl)) ?_))
        refine ⟨l.length - (k + 1), by omega, k + 1, by omega, rfl, by first | (simp; done) | omega, by simp [upd_apply, h1], by simp [upd_apply, h4], by simp [upd_apply, n1, hb1], by simp [upd_apply, h5], by simp [upd_apply, h9], by simp [upd_apply, h10], ?_, hno⟩
        simp [upd_apply]
        exact wrap_id _ (by omega) (by omega)
    · have hkl : k = l.length := by simp at hc; omega
      rw [hkl] at hno
      simp only [List.drop_length, List.find?_nil] at hno
      (repeat (first | refine W_nil ?_ | (refine W_u fun N hN => ?_; simp [stepU, stepG, putQ, guardD, isQuiet, qv, nv, ev, stripS, strip, putS, upd_apply, st0, lenD, binD, binV, intBin, strBin, unD, indexAddrD, indexD, loadD, fieldD, fieldValD, partD, pickD, extractD, buildD, fillD, splice, mkAgg, allT, toT, D.cells, D.leaf, Value.cells, Value.oneCell', varBox, storeD, buildSliceD, pureRow, mkFn, convD, mmD, mmV, sliceD, bndD, okHead, calleeD, callD, Env.get, Env.getF, callF, frz, T.flat, appendD, rowsX, widthOk, rangeD, nextD, goInt, h4, hb1]; refine hN _ ?_; clear hN N) | (refine W_g rfl fun N hN => ?_; simp [stepU, stepG, putQ, guardD, isQuiet, qv, nv, ev, stripS, strip, putS, upd_apply, st0, lenD, binD, binV, intBin, strBin, unD, indexAddrD, indexD, loadD, fieldD, fieldValD, partD, pickD, extractD, buildD, fillD, splice, mkAgg, allT, toT, D.cells, D.leaf, Value.cells, Value.oneCell', varBox, storeD, buildSliceD, pureRow, mkFn, convD, mmD, mmV, sliceD, bndD, okHead, calleeD, callD, Env.get, Env.getF, callF, frz, T.flat, appendD, rowsX, widthOk, rangeD, nextD, goInt, h4, hb1]; refine hN _ ?_; clear hN N) | refine W_assoc ?_ | refine W_sskip ?_ | refine W_skip ?_ | refine W_sblock ?_ | refine W_block ?_ | refine W_sret ?_ | refine W_ret ?_ | refine W_sexit ?_ | refine W_exit ?_ | refine W_sreg (by first | exact .inl rfl | exact .inr (by kernel_rfl)) ?_ | refine W_reg (by first | exact .inl rfl | exact .inr (by kernel_rfl)) ?_))
      refine ⟨by simp, ?_⟩
      simp [resD, resL, loadD, frz, strip, upd_apply, T.canon, mkAgg, allT, toT, ← hno, noSeam, h4, h5, hb1]
  · cases h

theorem fn_seam17 : PureFn Try.prog 38 gSeam := by
  refine pureFn_of (E := []) (EnvOk.nil _) mixed Try.func38 (by kernel_rfl) (c := _) rfl fun args r h => ?_
  unfold gSeam at h
  split at h
  · rename_i dr id
    simp only [Option.map_eq_some_iff] at h
    obtain ⟨d, hd, rfl⟩ := h
    have hok := decDesign_ok hd
    obtain ⟨⟨l1, l2, l3, l4, l5⟩, ⟨e1, e2, e3, e4, e5⟩⟩ := hok.leaves
    have hd' := decDesign_spec _ _ hd
    subst hd'
    obtain ⟨f, hr⟩ := asL_spec decSeam_spec hok.seams
    refine ⟨by simp [Try.ntmps38], fun hbd => ?_⟩
    have hlen : (dSeams d).length ≤ 2 ^ 47 := by
      have h1 := hbd (.agg (encDesign d)) (by simp)
      have h2 := (Bd_agg _).1 h1 d.seams (by simp [encDesign])
      simpa using Bd_rows h2 hr
    rw [Try.ntmps38, Try.results38]
    (repeat (first | refine W_nil ?_ | (refine W_u fun N hN => ?_; simp [stepU, stepG, putQ, guardD, isQuiet, qv, nv, ev, stripS, strip, putS, upd_apply, st0, lenD, binD, binV, intBin, strBin, unD, indexAddrD, indexD, loadD, fieldD, fieldValD, partD, pickD, extractD, buildD, fillD, splice, mkAgg, allT, toT, D.cells, D.leaf, Value.cells, Value.oneCell', varBox, storeD, buildSliceD, pureRow, mkFn, convD, mmD, mmV, sliceD, bndD, okHead, calleeD, callD, Env.get, Env.getF, callF, frz, T.flat, appendD, rowsX, widthOk, rangeD, nextD, goInt, encDesign, l1, l2, l3, l4, l5, e1, e2, e3, e4, e5]; refine hN _ ?_; clear hN N) | (refine W_g rfl fun N hN => ?_; simp [stepU, stepG, putQ, guardD, isQuiet, qv, nv, ev, stripS, strip, putS, upd_apply, st0, lenD, binD, binV, intBin, strBin, unD, indexAddrD, indexD, loadD, fieldD, fieldValD, partD, pickD, extractD, buildD, fillD, splice, mkAgg, allT, toT, D.cells, D.leaf, Value.cells, Value.oneCell', varBox, storeD, buildSliceD, pureRow, mkFn, convD, mmD, mmV, sliceD, bndD, okHead, calleeD, callD, Env.get, Env.getF, callF, frz, T.flat, appendD, rowsX, widthOk, rangeD, nextD, goInt, encDesign, l1, l2, l3, l4, l5, e1, e2, e3, e4, e5]; refine hN _ ?_; clear hN N) | refine W_assoc ?_ | refine W_sskip ?_ | refine W_skip ?_ | refine W_sblock ?_ | refine W_block ?_ | refine W_sret ?_ | refine W_ret ?_ | refine W_sexit ?_ | refine W_exit ?_ | refine W_sreg (by first | exact .inl rfl | exact .inr (by kernel_rfl)) ?_ | refine W_reg (by first | exact .inl rfl | exact .inr (by kernel_rfl)) ?_))
    generalize hl : dSeams d = l at *
    refine wpc_loop (fun m st => ∃ k : Nat, k ≤ l.length ∧ m = l.length - k ∧ st.s 1 = .p (.v (.string id)) ∧ st.s 2 = .ptr 0 0 0 ∧ st.s 4 = .ptr 1 0 0 ∧ st.σ 0 = some (.rows [(encDesign d).map .p]) ∧ st.σ 1 = some (.rows [[.p (sT { data := #[] }), .p (sT { data := #[] }), .p (sT { data := #[] }), .p (iT 0), .p (iT 0), .p (iT 0)]]) ∧ st.s 6 = .p (.v (.int .i64 k)) ∧ (l.drop k).find? (fun s => decide (s.id = id)) = l.find? (fun s => decide (s.id = id))) l.length ⟨0, by simp, by simp, by simp [upd_apply], by simp [upd_apply], by simp [upd_apply], by simp [upd_apply, encDesign], by simp [upd_apply], by simp [upd_apply], by simp⟩ ?_
    rintro m st ⟨k, hk, rfl, h1, h2, h4, hb0, hb1, h6, hno⟩
    (repeat (first | refine W_nil ?_ | (refine W_u fun N hN => ?_; simp [stepU, stepG, putQ, guardD, isQuiet, qv, nv, ev, stripS, strip, putS, upd_apply, st0, lenD, binD, binV, intBin, strBin, unD, indexAddrD, indexD, loadD, fieldD, fieldValD, partD, pickD, extractD, buildD, fillD, splice, mkAgg, allT, toT, D.cells, D.leaf, Value.cells, Value.oneCell', varBox, storeD, buildSliceD, pureRow, mkFn, convD, mmD, mmV, sliceD, bndD, okHead, calleeD, callD, Env.get, Env.getF, callF, frz, T.flat, appendD, rowsX, widthOk, rangeD, nextD, goInt, h1, h2, h4, hb0, h6, hr, encDesign, l1, l2, l3, l4, l5, e1, e2, e3, e4, e5]; refine hN _ ?_; clear hN N) | (refine W_g rfl fun N hN => ?_; simp [stepU, stepG, putQ, guardD, isQuiet, qv, nv, ev, stripS, strip, putS, upd_apply, st0, lenD, binD, binV, intBin, strBin, unD, indexAddrD, indexD, loadD, fieldD, fieldValD, partD, pickD, extractD, buildD, fillD, splice, mkAgg, allT, toT, D.cells, D.leaf, Value.cells, Value.oneCell', varBox, storeD, buildSliceD, pureRow, mkFn, convD, mmD, mmV, sliceD, bndD, okHead, calleeD, callD, Env.get, Env.getF, callF, frz, T.flat, appendD, rowsX, widthOk, rangeD, nextD, goInt, h1, h2, h4, hb0, h6, hr, encDesign, l1, l2, l3, l4, l5, e1, e2, e3, e4, e5]; refine hN _ ?_; clear hN N) | refine W_assoc ?_ | refine W_sskip ?_ | refine W_skip ?_ | refine W_sblock ?_ | refine W_block ?_ | refine W_sret ?_ | refine W_ret ?_ | refine W_sexit ?_ | refine W_exit ?_ | refine W_sreg (by first | exact .inl rfl | exact .inr (by kernel_rfl)) ?_ | refine W_reg (by first | exact .inl rfl | exact .inr (by kernel_rfl)) ?_))
    (first | (refine W_scond fun A B hA hB => ?_) | (refine W_cond fun A B hA hB => ?_)); simp [ev, stripS, strip, upd_apply]; refine condQ_bool (fun hc => hA ?_) (fun hc => hB ?_) <;> clear hA hB A B
    · have hlt : k < l.length := by simpa using hc
      have hlk : l[k]? = some l[k] := by simp [hlt]
      rw [drop_cons hlt] at hno
      simp only [List.find?_cons] at hno
      generalize hp : l[k] = s at *
      clear hc
      (repeat (first | refine W_nil ?_ | (refine W_u fun N hN => ?_; simp [stepU, stepG, putQ, guardD, isQuiet, qv, nv, ev, stripS, strip, putS, upd_apply, st0, lenD, binD, binV, intBin, strBin, unD, indexAddrD, indexD, loadD, fieldD, fieldValD, partD, pickD, extractD, buildD, fillD, splice, mkAgg, allT, toT, D.cells, D.leaf, Value.cells, Value.oneCell', varBox, storeD, buildSliceD, pureRow, mkFn, convD, mmD, mmV, sliceD, bndD, okHead, calleeD, callD, Env.get, Env.getF, callF, frz, T.flat, appendD, rowsX, widthOk, rangeD, nextD, goInt, h1, h2, h4, hb0, h6, hr, hlk, encSeam, encDesign, l1, l2, l3, l4, l5, e1, e2, e3, e4, e5]; refine hN _ ?_; clear hN N) | (refine W_g rfl fun N hN => ?_; simp [stepU, stepG, putQ, guardD, isQuiet, qv, nv, ev, stripS, strip, putS, upd_apply, st0, lenD, binD, binV, intBin, strBin, unD, indexAddrD, indexD, loadD, fieldD, fieldValD, partD, pickD, extractD, buildD, fillD, splice, mkAgg, allT, toT, D.cells, D.leaf, Value.cells, Value.oneCell', varBox, storeD, buildSliceD, pureRow, mkFn, convD, mmD, mmV, sliceD, bndD, okHead, calleeD, callD, Env.get, Env.getF, callF, frz, T.flat, appendD, rowsX, widthOk, rangeD, nextD, goInt, h1, h2, h4, hb0, h6, hr, hlk, encSeam, encDesign, l1, l2, l3, l4, l5, e1, e2, e3, e4, e5]; refine hN _ ?_; clear hN N) | refine W_assoc ?_ | refine W_sskip ?_ | refine W_skip ?_ | refine W_sblock ?_ | refine W_block ?_ | refine W_sret ?_ | refine W_ret ?_ | refine W_sexit ?_ | refine W_exit ?_ | refine W_sreg (by first | exact .inl rfl | exact .inr (by kernel_rfl)) ?_ | refine W_reg (by first | exact .inl rfl | exact .inr (by kernel_rfl)) ?_))
      (first | (refine W_scond fun A B hA hB => ?_) | (refine W_cond fun A B hA hB => ?_)); simp [ev, stripS, strip, upd_apply]; refine condQ_bool (fun hc => hA ?_) (fun hc => hB ?_) <;> clear hA hB A B
      · rw [hc] at hno
        (repeat (first | refine W_nil ?_ | (refine W_u fun N hN => ?_; simp [stepU, stepG, putQ, guardD, isQuiet, qv, nv, ev, stripS, strip, putS, upd_apply, st0, lenD, binD, binV, intBin, strBin, unD, indexAddrD, indexD, loadD, fieldD, fieldValD, partD, pickD, extractD, buildD, fillD, splice, mkAgg, allT, toT, D.cells, D.leaf, Value.cells, Value.oneCell', varBox, storeD, buildSliceD, pureRow, mkFn, convD, mmD, mmV, sliceD, bndD, okHead, calleeD, callD, Env.get, Env.getF, callF, frz, T.flat, appendD, rowsX, widthOk, rangeD, nextD, goInt, h2, h4, hb0, hb1, h6, hr, hlk, encSeam, encDesign, l1, l2, l3, l4, l5, e1, e2, e3, e4, e5]; refine hN _ ?_; clear hN N) | (refine W_g rfl fun N hN => ?_; simp [stepU, stepG, putQ, guardD, isQuiet, qv, nv, ev, stripS, strip, putS, upd_apply, st0, lenD, binD, binV, intBin, strBin, unD, indexAddrD, indexD, loadD, fieldD, fieldValD, partD, pickD, extractD, buildD, fillD, splice, mkAgg, allT, toT, D.cells, D.leaf, Value.cells, Value.oneCell', varBox, storeD, buildSliceD, pureRow, mkFn, convD, mmD, mmV, sliceD, bndD, okHead, calleeD, callD, Env.get, Env.getF, callF, frz, T.flat, appendD, rowsX, widthOk, rangeD, nextD, goInt, h2, h4, hb0, hb1, h6, hr, hlk, encSeam, encDesign, l1, l2, l3, l4, l5, e1, e2, e3, e4, e5]; refine hN _ ?_; clear hN N) | refine W_assoc ?_ | refine W_sskip ?_ | refine W_skip ?_ | refine W_sblock ?_ | refine W_block ?_ | refine W_sret ?_ | refine W_ret ?_ | refine W_sexit ?_ | refine W_exit ?_ | refine W_sreg (by first | exact .inl rfl | exact .inr (by kernel_rfl)) ?_ | refine W_reg (by first | exact .inl rfl | exact .inr (by kernel_rfl)) ?_))
        refine ⟨by simp, ?_⟩
        simp [resD, resL, loadD, frz, strip, upd_apply, T.canon, mkAgg, allT, toT, ← hno, seamT, encSeam, h4]
      · rw [hc] at hno
        (repeat (first | refine W_nil ?_ | (refine W_u fun N hN => ?_; simp [stepU, stepG, putQ, guardD, isQuiet, qv, nv, ev, stripS, strip, putS, upd_apply, st0, lenD, binD, binV, intBin, strBin, unD, indexAddrD, indexD, loadD, fieldD, fieldValD, partD, pickD, extractD, buildD, fillD, splice, mkAgg, allT, toT, D.cells, D.leaf, Value.cells, Value.oneCell', varBox, storeD, buildSliceD, pureRow, mkFn, convD, mmD, mmV, sliceD, bndD, okHead, calleeD, callD, Env.get, Env.getF, callF, frz, T.flat, appendD, rowsX, widthOk, rangeD, nextD, goInt, h6]; refine hN _ ?_; clear hN N) | (refine W_g rfl fun N hN => ?_; simp [stepU, stepG, putQ, guardD, isQuiet, qv, nv, ev, stripS, strip, putS, upd_apply, st0, lenD, binD, binV, intBin, strBin, unD, indexAddrD, indexD, loadD, fieldD, fieldValD, partD, pickD, extractD, buildD, fillD, splice, mkAgg, allT, toT, D.cells, D.leaf, Value.cells, Value.oneCell', varBox, storeD, buildSliceD, pureRow, mkFn, convD, mmD, mmV, sliceD, bndD, okHead, calleeD, callD, Env.get, Env.getF, callF, frz, T.flat, appendD, rowsX, widthOk, rangeD, nextD, goInt, h6]; refine hN _ ?_; clear hN N) | refine W_assoc ?_ | refine W_sskip ?_ | refine W_skip ?_ | refine W_sblock ?_ | refine W_block ?_ | refine W_sret ?_ | refine W_ret ?_ | refine W_sexit ?_ | refine W_exit ?_ | refine W_sreg (by first | exact .inl rfl | exact .inr (by kernel_rfl)) ?_ | refine W_reg (by first | exact .inl rfl | exact .inr (by kernel_rfl)) ?_))
        refine ⟨l.length - (k + 1), by omega, k + 1, by omega, rfl, by simp [upd_apply, h1], by simp [upd_apply, h2], by simp [upd_apply, h4], by simp [hb0], by simp [hb1], ?_, hno⟩
        simp [upd_apply]
        exact wrap_id _ (by omega) (by omega)
    · have hkl : k = l.length := by simp at hc; omega
      rw [hkl] at hno
      simp only [List.drop_length, List.find?_nil] at hno
      (repeat (first | refine W_nil ?_ | (refine W_u fun N hN => ?_; simp [stepU, stepG, putQ, guardD, isQuiet, qv, nv, ev, stripS, strip, putS, upd_apply, st0, lenD, binD, binV, intBin, strBin, unD, indexAddrD, indexD, loadD, fieldD, fieldValD, partD, pickD, extractD, buildD, fillD, splice, mkAgg, allT, toT, D.cells, D.leaf, Value.cells, Value.oneCell', varBox, storeD, buildSliceD, pureRow, mkFn, convD, mmD, mmV, sliceD, bndD, okHead, calleeD, callD, Env.get, Env.getF, callF, frz, T.flat, appendD, rowsX, widthOk, rangeD, nextD, goInt, h4, hb1]; refine hN _ ?_; clear hN N) | (refine W_g rfl fun N hN => ?_; simp [stepU, stepG, putQ, guardD, isQuiet, qv, nv, ev, stripS, strip, putS, upd_apply, st0, lenD, binD, binV, intBin, strBin, unD, indexAddrD, indexD, loadD, fieldD, fieldValD, partD, pickD, extractD, buildD, fillD, splice, mkAgg, allT, toT, D.cells, D.leaf, Value.cells, Value.oneCell', varBox, storeD, buildSliceD, pureRow, mkFn, convD, mmD, mmV, sliceD, bndD, okHead, calleeD, callD, Env.get, Env.getF, callF, frz, T.flat, appendD, rowsX, widthOk, rangeD, nextD, goInt, h4, hb1]; refine hN _ ?_; clear hN N) | refine W_assoc ?_ | refine W_sskip ?_ | refine W_skip ?_ | refine W_sblock ?_ | refine W_block ?_ | refine W_sret ?_ | refine W_ret ?_ | refine W_sexit ?_ | refine W_exit ?_ | refine W_sreg (by first | exact .inl rfl | exact .inr (by kernel_rfl)) ?_ | refine W_reg (by first | exact .inl rfl | exact .inr (by kernel_rfl)) ?_))
      refine ⟨by simp, ?_⟩
      simp [resD, resL, loadD, frz, strip, upd_apply, T.canon, mkAgg, allT, toT, ← hno, noSeam, h4]
  · cases h

/-! ### Parts -/
def partT (p : Part) : T := .agg (encPart' p (.sl false (rowsOf p.outer)) (.sl false ((holes p.holes).map encH)))
def gPart17 : List T → Option T
  | [.agg d, .v (.string id)] => (decDesign d).map fun d => match (dParts d).find? (fun s => decide (s.id = id)) with
    | some s => .tup [partT s, bT true]
    | none => .tup [noPart, bT false]
  | _ => none
def noPartD : List D := [.p (sT { data := #[] }), .p (iT 0), .p (iT 0), .p (sT { data := #[] }), .p (sT { data := #[] }), .p (iT 0), .p (.v (.slice none 0 0)), .p (.v (.slice none 0 0)), .p (sT { data := #[] }), .p (iT 0), .p (iT 0), .p (iT 0), .p (iT 0), .p (iT 0), .p (iT 0), .p (iT 0), .p (iT 0), .p (iT 0)]
theorem fn_part17 : PureFn Try.prog 40 gPart17 := by
  refine pureFn_of (E := []) (EnvOk.nil _) mixed Try.func40 (by kernel_rfl) (c := _) rfl fun args r h => ?_
  unfold gPart17 at h
  split at h
  · rename_i dr id
    simp only [Option.map_eq_some_iff] at h
    obtain ⟨d, hd, rfl⟩ := h
    have hok := decDesign_ok hd
    obtain ⟨⟨l1, l2, l3, l4, l5⟩, ⟨e1, e2, e3, e4, e5⟩⟩ := hok.leaves
    have hd' := decDesign_spec _ _ hd
    subst hd'
    obtain ⟨f, hr⟩ := asL_spec decPart_spec hok.parts
    have hdec := asL_dec decPart_spec hok.parts
    refine ⟨by simp [Try.ntmps40], fun hbd => ?_⟩
    have hlen : (dParts d).length ≤ 2 ^ 47 := by
      have h1 := hbd (.agg (encDesign d)) (by simp)
      have h2 := (Bd_agg _).1 h1 d.parts (by simp [encDesign])
      simpa using Bd_rows h2 hr
    rw [Try.ntmps40, Try.results40]
    (repeat (first | refine W_nil ?_ | (refine W_u fun N hN => ?_; simp [stepU, stepG, putQ, guardD, isQuiet, qv, nv, ev, stripS, strip, putS, upd_apply, st0, lenD, binD, binV, intBin, strBin, unD, indexAddrD, indexD, loadD, fieldD, fieldValD, partD, pickD, extractD, buildD, fillD, splice, mkAgg, allT, toT, D.cells, D.leaf, Value.cells, Value.oneCell', varBox, storeD, buildSliceD, pureRow, mkFn, convD, mmD, mmV, sliceD, bndD, okHead, calleeD, callD, Env.get, Env.getF, callF, frz, T.flat, appendD, rowsX, widthOk, rangeD, nextD, goInt, encDesign, l1, l2, l3, l4, l5, e1, e2, e3, e4, e5]; refine hN _ ?_; clear hN N) | (refine W_g rfl fun N hN => ?_; simp [stepU, stepG, putQ, guardD, isQuiet, qv, nv, ev, stripS, strip, putS, upd_apply, st0, lenD, binD, binV, intBin, strBin, unD, indexAddrD, indexD, loadD, fieldD, fieldValD, partD, pickD, extractD, buildD, fillD, splice, mkAgg, allT, toT, D.cells, D.leaf, Value.cells, Value.oneCell', varBox, storeD, buildSliceD, pureRow, mkFn, convD, mmD, mmV, sliceD, bndD, okHead, calleeD, callD, Env.get, Env.getF, callF, frz, T.flat, appendD, rowsX, widthOk, rangeD, nextD, goInt, encDesign, l1, l2, l3, l4, l5, e1, e2, e3, e4, e5]; refine hN _ ?_; clear hN N) | refine W_assoc ?_ | refine W_sskip ?_ | refine W_skip ?_ | refine W_sblock ?_ | refine W_block ?_ | refine W_sret ?_ | refine W_ret ?_ | refine W_sexit ?_ | refine W_exit ?_ | refine W_sreg (by first | exact .inl rfl | exact .inr (by kernel_rfl)) ?_ | refine W_reg (by first | exact .inl rfl | exact .inr (by kernel_rfl)) ?_))
    generalize hl : dParts d = l at *
    refine wpc_loop (fun m st => ∃ k : Nat, k ≤ l.length ∧ m = l.length - k ∧ st.s 1 = .p (.v (.string id)) ∧ st.s 2 = .ptr 0 0 0 ∧ st.s 4 = .ptr 1 0 0 ∧ st.σ 0 = some (.rows [(encDesign d).map .p]) ∧ st.σ 1 = some (.rows [noPartD]) ∧ st.s 6 = .p (.v (.int .i64 k)) ∧ (l.drop k).find? (fun s => decide (s.id = id)) = l.find? (fun s => decide (s.id = id))) l.length ⟨0, by simp, by simp, by simp [upd_apply], by simp [upd_apply], by simp [upd_apply], by simp [upd_apply, encDesign], by simp [upd_apply, noPartD], by simp [upd_apply], by simp⟩ ?_
    rintro m st ⟨k, hk, rfl, h1, h2, h4, hb0, hb1, h6, hno⟩
    (repeat (first | refine W_nil ?_ | (refine W_u fun N hN => ?_; simp [stepU, stepG, putQ, guardD, isQuiet, qv, nv, ev, stripS, strip, putS, upd_apply, st0, lenD, binD, binV, intBin, strBin, unD, indexAddrD, indexD, loadD, fieldD, fieldValD, partD, pickD, extractD, buildD, fillD, splice, mkAgg, allT, toT, D.cells, D.leaf, Value.cells, Value.oneCell', varBox, storeD, buildSliceD, pureRow, mkFn, convD, mmD, mmV, sliceD, bndD, okHead, calleeD, callD, Env.get, Env.getF, callF, frz, T.flat, appendD, rowsX, widthOk, rangeD, nextD, goInt, h1, h2, h4, hb0, h6, hr, encDesign, l1, l2, l3, l4, l5, e1, e2, e3, e4, e5]; refine hN _ ?_; clear hN N) | (refine W_g rfl fun N hN => ?_; simp [stepU, stepG, putQ, guardD, isQuiet, qv, nv, ev, stripS, strip, putS, upd_apply, st0, lenD, binD, binV, intBin, strBin, unD, indexAddrD, indexD, loadD, fieldD, fieldValD, partD, pickD, extractD, buildD, fillD, splice, mkAgg, allT, toT, D.cells, D.leaf, Value.cells, Value.oneCell', varBox, storeD, buildSliceD, pureRow, mkFn, convD, mmD, mmV, sliceD, bndD, okHead, calleeD, callD, Env.get, Env.getF, callF, frz, T.flat, appendD, rowsX, widthOk, rangeD, nextD, goInt, h1, h2, h4, hb0, h6, hr, encDesign, l1, l2, l3, l4, l5, e1, e2, e3, e4, e5]; refine hN _ ?_; clear hN N) | refine W_assoc ?_ | refine W_sskip ?_ | refine W_skip ?_ | refine W_sblock ?_ | refine W_block ?_ | refine W_sret ?_ | refine W_ret ?_ | refine W_sexit ?_ | refine W_exit ?_ | refine W_sreg (by first | exact .inl rfl | exact .inr (by kernel_rfl)) ?_ | refine W_reg (by first | exact .inl rfl | exact .inr (by kernel_rfl)) ?_))
    (first | (refine W_scond fun A B hA hB => ?_) | (refine W_cond fun A B hA hB => ?_)); simp [ev, stripS, strip, upd_apply]; refine condQ_bool (fun hc => hA ?_) (fun hc => hB ?_) <;> clear hA hB A B
    · have hlt : k < l.length := by simpa using hc
      have hlk : l[k]? = some l[k] := by simp [hlt]
      have hpok := decPart_ok (hdec _ (List.getElem_mem hlt))
      rw [drop_cons hlt] at hno
      simp only [List.find?_cons] at hno
      generalize hp : l[k] = s at *
      obtain ⟨ho, hh⟩ := hpok
      obtain ⟨⟨fo, hor⟩, _, hol, hoc⟩ := listOkC_spec ho
      obtain ⟨_, _, ⟨fh, hhr⟩, _, hhl, hhc⟩ := holesOk_spec hh
      clear hc
      (repeat (first | refine W_nil ?_ | (refine W_u fun N hN => ?_; simp [stepU, stepG, putQ, guardD, isQuiet, qv, nv, ev, stripS, strip, putS, upd_apply, st0, lenD, binD, binV, intBin, strBin, unD, indexAddrD, indexD, loadD, fieldD, fieldValD, partD, pickD, extractD, buildD, fillD, splice, mkAgg, allT, toT, D.cells, D.leaf, Value.cells, Value.oneCell', varBox, storeD, buildSliceD, pureRow, mkFn, convD, mmD, mmV, sliceD, bndD, okHead, calleeD, callD, Env.get, Env.getF, callF, frz, T.flat, appendD, rowsX, widthOk, rangeD, nextD, goInt, h1, h2, h4, hb0, h6, hr, hlk, encPart, encPart', encDesign, l1, l2, l3, l4, l5, e1, e2, e3, e4, e5, hol, hoc, hhl, hhc]; refine hN _ ?_; clear hN N) | (refine W_g rfl fun N hN => ?_; simp [stepU, stepG, putQ, guardD, isQuiet, qv, nv, ev, stripS, strip, putS, upd_apply, st0, lenD, binD, binV, intBin, strBin, unD, indexAddrD, indexD, loadD, fieldD, fieldValD, partD, pickD, extractD, buildD, fillD, splice, mkAgg, allT, toT, D.cells, D.leaf, Value.cells, Value.oneCell', varBox, storeD, buildSliceD, pureRow, mkFn, convD, mmD, mmV, sliceD, bndD, okHead, calleeD, callD, Env.get, Env.getF, callF, frz, T.flat, appendD, rowsX, widthOk, rangeD, nextD, goInt, h1, h2, h4, hb0, h6, hr, hlk, encPart, encPart', encDesign, l1, l2, l3, l4, l5, e1, e2, e3, e4, e5, hol, hoc, hhl, hhc]; refine hN _ ?_; clear hN N) | refine W_assoc ?_ | refine W_sskip ?_ | refine W_skip ?_ | refine W_sblock ?_ | refine W_block ?_ | refine W_sret ?_ | refine W_ret ?_ | refine W_sexit ?_ | refine W_exit ?_ | refine W_sreg (by first | exact .inl rfl | exact .inr (by kernel_rfl)) ?_ | refine W_reg (by first | exact .inl rfl | exact .inr (by kernel_rfl)) ?_))
      (first | (refine W_scond fun A B hA hB => ?_) | (refine W_cond fun A B hA hB => ?_)); simp [ev, stripS, strip, upd_apply]; refine condQ_bool (fun hc => hA ?_) (fun hc => hB ?_) <;> clear hA hB A B
      · rw [hc] at hno
        (repeat (first | refine W_nil ?_ | (refine W_u fun N hN => ?_; simp [stepU, stepG, putQ, guardD, isQuiet, qv, nv, ev, stripS, strip, putS, upd_apply, st0, lenD, binD, binV, intBin, strBin, unD, indexAddrD, indexD, loadD, fieldD, fieldValD, partD, pickD, extractD, buildD, fillD, splice, mkAgg, allT, toT, D.cells, D.leaf, Value.cells, Value.oneCell', varBox, storeD, buildSliceD, pureRow, mkFn, convD, mmD, mmV, sliceD, bndD, okHead, calleeD, callD, Env.get, Env.getF, callF, frz, T.flat, appendD, rowsX, widthOk, rangeD, nextD, goInt, h2, h4, hb0, hb1, noPartD, h6, hr, hlk, encPart, encPart', encDesign, l1, l2, l3, l4, l5, e1, e2, e3, e4, e5, hol, hoc, hhl, hhc]; refine hN _ ?_; clear hN N) | (refine W_g rfl fun N hN => ?_; simp [stepU, stepG, putQ, guardD, isQuiet, qv, nv, ev, stripS, strip, putS, upd_apply, st0, lenD, binD, binV, intBin, strBin, unD, indexAddrD, indexD, loadD, fieldD, fieldValD, partD, pickD, extractD, buildD, fillD, splice, mkAgg, allT, toT, D.cells, D.leaf, Value.cells, Value.oneCell', varBox, storeD, buildSliceD, pureRow, mkFn, convD, mmD, mmV, sliceD, bndD, okHead, calleeD, callD, Env.get, Env.getF, callF, frz, T.flat, appendD, rowsX, widthOk, rangeD, nextD, goInt, h2, h4, hb0, hb1, noPartD, h6, hr, hlk, encPart, encPart', encDesign, l1, l2, l3, l4, l5, e1, e2, e3, e4, e5, hol, hoc, hhl, hhc]; refine hN _ ?_; clear hN N) | refine W_assoc ?_ | refine W_sskip ?_ | refine W_skip ?_ | refine W_sblock ?_ | refine W_block ?_ | refine W_sret ?_ | refine W_ret ?_ | refine W_sexit ?_ | refine W_exit ?_ | refine W_sreg (by first | exact .inl rfl | exact .inr (by kernel_rfl)) ?_ | refine W_reg (by first | exact .inl rfl | exact .inr (by kernel_rfl)) ?_))
        refine ⟨by simp, ?_⟩
        simp [resD, resL, loadD, frz, strip, upd_apply, T.canon, mkAgg, allT, toT, ← hno, partT, encPart', h4, canon_rows hor, canon_rows hhr]
      · rw [hc] at hno
        (repeat (first | refine W_nil ?_ | (refine W_u fun N hN => ?_; simp [stepU, stepG, putQ, guardD, isQuiet, qv, nv, ev, stripS, strip, putS, upd_apply, st0, lenD, binD, binV, intBin, strBin, unD, indexAddrD, indexD, loadD, fieldD, fieldValD, partD, pickD, extractD, buildD, fillD, splice, mkAgg, allT, toT, D.cells, D.leaf, Value.cells, Value.oneCell', varBox, storeD, buildSliceD, pureRow, mkFn, convD, mmD, mmV, sliceD, bndD, okHead, calleeD, callD, Env.get, Env.getF, callF, frz, T.flat, appendD, rowsX, widthOk, rangeD, nextD, goInt, h6]; refine hN _ ?_; clear hN N) | (refine W_g rfl fun N hN => ?_; simp [stepU, stepG, putQ, guardD, isQuiet, qv, nv, ev, stripS, strip, putS, upd_apply, st0, lenD, binD, binV, intBin, strBin, unD, indexAddrD, indexD, loadD, fieldD, fieldValD, partD, pickD, extractD, buildD, fillD, splice, mkAgg, allT, toT, D.cells, D.leaf, Value.cells, Value.oneCell', varBox, storeD, buildSliceD, pureRow, mkFn, convD, mmD, mmV, sliceD, bndD, okHead, calleeD, callD, Env.get, Env.getF, callF, frz, T.flat, appendD, rowsX, widthOk, rangeD, nextD, goInt, h6]; refine hN _ ?_; clear hN N) | refine W_assoc ?_ | refine W_sskip ?_ | refine W_skip ?_ | refine W_sblock ?_ | refine W_block ?_ | refine W_sret ?_ | refine W_ret ?_ | refine W_sexit ?_ | refine W_exit ?_ | refine W_sreg (by first | exact .inl rfl | exact .inr (by kernel_rfl)) ?_ | refine W_reg (by first | exact .inl rfl | exact .inr (by kernel_rfl)) ?_))
        refine ⟨l.length - (k + 1), by omega, k + 1, by omega, rfl, by simp [upd_apply, h1], by simp [upd_apply, h2], by simp [upd_apply, h4], by simp [hb0], by simp [hb1], ?_, hno⟩
        simp [upd_apply]
        exact wrap_id _ (by omega) (by omega)
    · have hkl : k = l.length := by simp at hc; omega
      rw [hkl] at hno
      simp only [List.drop_length, List.find?_nil] at hno
      (repeat (first | refine W_nil ?_ | (refine W_u fun N hN => ?_; simp [stepU, stepG, putQ, guardD, isQuiet, qv, nv, ev, stripS, strip, putS, upd_apply, st0, lenD, binD, binV, intBin, strBin, unD, indexAddrD, indexD, loadD, fieldD, fieldValD, partD, pickD, extractD, buildD, fillD, splice, mkAgg, allT, toT, D.cells, D.leaf, Value.cells, Value.oneCell', varBox, storeD, buildSliceD, pureRow, mkFn, convD, mmD, mmV, sliceD, bndD, okHead, calleeD, callD, Env.get, Env.getF, callF, frz, T.flat, appendD, rowsX, widthOk, rangeD, nextD, goInt, h4, hb1, noPartD]; refine hN _ ?_; clear hN N) | (refine W_g rfl fun N hN => ?_; simp [stepU, stepG, putQ, guardD, isQuiet, qv, nv, ev, stripS, strip, putS, upd_apply, st0, lenD, binD, binV, intBin, strBin, unD, indexAddrD, indexD, loadD, fieldD, fieldValD, partD, pickD, extractD, buildD, fillD, splice, mkAgg, allT, toT, D.cells, D.leaf, Value.cells, Value.oneCell', varBox, storeD, buildSliceD, pureRow, mkFn, convD, mmD, mmV, sliceD, bndD, okHead, calleeD, callD, Env.get, Env.getF, callF, frz, T.flat, appendD, rowsX, widthOk, rangeD, nextD, goInt, h4, hb1, noPartD]; refine hN _ ?_; clear hN N) | refine W_assoc ?_ | refine W_sskip ?_ | refine W_skip ?_ | refine W_sblock ?_ | refine W_block ?_ | refine W_sret ?_ | refine W_ret ?_ | refine W_sexit ?_ | refine W_exit ?_ | refine W_sreg (by first | exact .inl rfl | exact .inr (by kernel_rfl)) ?_ | refine W_reg (by first | exact .inl rfl | exact .inr (by kernel_rfl)) ?_))
      refine ⟨by simp, ?_⟩
      simp [resD, resL, loadD, frz, strip, upd_apply, T.canon, mkAgg, allT, toT, ← hno, noPart, h4]
  · cases h
end Go.Pv
