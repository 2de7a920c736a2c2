/-
  The statements' own functions, third part.
-/
import Derived.Test.YtnepemjcinpohaaPfp
set_option linter.unusedSimpArgs false
namespace Go.Pv
open Go Go.Proofs

/-! ### Light -/
def light18 (d : Design) (m : Int) : Bool := decide (((rowsOf d.nodes).length : Int) ≤ m) && decide (((dParts d).length : Int) ≤ m) && decide (((dSeams d).length : Int) ≤ m)
def gLight18 : List T → Option T
  | [.agg d, .v (.int .i64 m)] => (decDesign d).map fun d => bT (light18 d m)
  | _ => none
theorem gLight18_at {d : Design} (h : decDesign (encDesign d) = some d) (m : Int) : gLight18 [.agg [sT d.hull, d.nodes, d.parts, d.seams, d.packs, d.needs], iT m] = some (bT (light18 d m)) := by
  show (decDesign (encDesign d)).map _ = _
  rw [h]; rfl
theorem fn_light18 : PureFn Try.prog 19 gLight18 := by
  refine pureFn_of (E := []) (EnvOk.nil _) mixed Try.func19 (by kernel_rfl) (c := _) rfl fun args r h => ?_
  unfold gLight18 at h
  split at h
  · rename_i dr m
    simp only [Option.map_eq_some_iff] at h
    obtain ⟨d, hd, rfl⟩ := h
    have ok := decDesign_ok hd
    obtain ⟨⟨l1, l2, l3, l4, l5⟩, ⟨k1, k2, k3, k4, k5⟩⟩ := ok.leaves
    obtain ⟨⟨f1, r1⟩, _⟩ := listOk_spec ok.nodes
    obtain ⟨f2, r2⟩ := asL_spec decPart_spec ok.parts
    obtain ⟨f3, r3⟩ := asL_spec decSeam_spec ok.seams
    have hd' := decDesign_spec _ _ hd
    subst hd'
    refine ⟨by simp [Try.ntmps19], fun hbd => ?_⟩
    rw [Try.ntmps19, Try.results19]
    (repeat (first | refine W_nil ?_ | (refine W_u fun N hN => ?_; simp [stepU, stepG, putQ, guardD, isQuiet, qv, nv, ev, stripS, strip, putS, upd_apply, st0, lenD, binD, binV, intBin, strBin, unD, indexAddrD, indexD, loadD, fieldD, fieldValD, partD, pickD, extractD, buildD, fillD, splice, mkAgg, allT, toT, D.cells, D.leaf, Value.cells, Value.oneCell', varBox, storeD, buildSliceD, pureRow, mkFn, convD, mmD, mmV, sliceD, bndD, okHead, calleeD, callD, Env.get, Env.getF, callF, frz, T.flat, appendD, rowsX, widthOk, rangeD, nextD, goInt, encDesign, l1, l2, l3, l4, l5, k1, k2, k3, k4, k5, r1, r2, r3]; refine hN _ ?_; clear hN N) | (refine W_g rfl fun N hN => ?_; simp [stepU, stepG, putQ, guardD, isQuiet, qv, nv, ev, stripS, strip, putS, upd_apply, st0, lenD, binD, binV, intBin, strBin, unD, indexAddrD, indexD, loadD, fieldD, fieldValD, partD, pickD, extractD, buildD, fillD, splice, mkAgg, allT, toT, D.cells, D.leaf, Value.cells, Value.oneCell', varBox, storeD, buildSliceD, pureRow, mkFn, convD, mmD, mmV, sliceD, bndD, okHead, calleeD, callD, Env.get, Env.getF, callF, frz, T.flat, appendD, rowsX, widthOk, rangeD, nextD, goInt, encDesign, l1, l2, l3, l4, l5, k1, k2, k3, k4, k5, r1, r2, r3]; refine hN _ ?_; clear hN N) | refine W_assoc ?_ | refine W_sskip ?_ | refine W_skip ?_ | refine W_sblock ?_ | refine W_block ?_ | refine W_sret ?_ | refine W_ret ?_ | refine W_sexit ?_ | refine W_exit ?_ | refine W_sreg (by first | exact .inl rfl | exact .inr (by kernel_rfl)) ?_ | refine W_reg (by first | exact .inl rfl | exact .inr (by kernel_rfl)) ?_))
    refine ⟨by simp, ?_⟩
    simp [resD, resL, loadD, frz, strip, upd_apply, T.canon, mkAgg, allT, toT, light18]
    try grind
  · cases h

/-! ### ProcedureSeams -/
structure Place where
  d : Design
  m : Mat
  id : ByteArray
def encPlace (x : Place) : List T := [sT x.d.hull, x.d.nodes, x.d.parts, x.d.seams, x.d.packs, x.d.needs, x.m.grades, x.m.sections, sT x.id]
def decPlace : List T → Option Place
  | [h, n, p, s, k, e, g, c, .v (.string id)] => match decDesign [h, n, p, s, k, e], decMat [g, c] with
    | some d, some m => some ⟨d, m, id⟩
    | _, _ => none
  | _ => none
theorem decPlace_spec {r : List T} {x : Place} (h : decPlace r = some x) : r = encPlace x ∧ decDesign (encDesign x.d) = some x.d ∧ decMat (encMat x.m) = some x.m := by
  unfold decPlace at h
  split at h
  · split at h
    · rename_i d m hd hm
      cases h
      have e1 := decDesign_spec _ _ hd
      have e2 := decMat_spec _ _ hm
      simp only [encDesign, encMat, List.cons.injEq, and_true] at e1 e2
      obtain ⟨rfl, rfl, rfl, rfl, rfl, rfl⟩ := e1
      obtain ⟨rfl, rfl⟩ := e2
      exact ⟨rfl, hd, hm⟩
    · cases h
  · cases h
def gLawPlace : List T → Option T
  | [.agg p, .agg x] => match decProc p, decPlace x with
    | some _, some _ => some (bT true)
    | _, _ => none
  | _ => none
theorem fn_lawSeams : PureFn Try.prog 5 gLawPlace := by
  refine pureFn_of (E := [(11, .pure gTrue), (19, .pure gLight18), (20, .pure gFor), (21, .pure gFor)]) (EnvOk.cons fn_awake31 (EnvOk.cons fn_light18 (EnvOk.cons fn_for (EnvOk.cons fn_for31 (EnvOk.nil _))))) mixed Try.func5 (by kernel_rfl) (c := _) rfl fun args r h => ?_
  unfold gLawPlace at h
  split at h
  · rename_i pr xr
    split at h
    · rename_i p x hp hx
      cases h
      obtain ⟨hx', hd, hm⟩ := decPlace_spec hx
      have hgl := (strsOk_leaf (decProc_ok hp)).1
      have hgc := (strsOk_leaf (decProc_ok hp)).2
      obtain ⟨fg, hgr⟩ := strsOk_rows (decProc_ok hp)
      obtain ⟨⟨l1, l2, l3, l4, l5⟩, ⟨k1, k2, k3, k4, k5⟩⟩ := (decDesign_ok hd).leaves
      obtain ⟨⟨l6, l7⟩, k6, k7⟩ := decMat_leaves hm
      obtain ⟨fs, hsr⟩ := asL_spec decSec_spec (decMat_ok hm).2
      have hp' := decProc_spec _ _ hp
      subst hp' hx'
      have c1 := gLight18_at hd 100
      have c2 := gFor_at hp hd hm x.id
      refine ⟨by simp [Try.ntmps5], fun hbd => ?_⟩
      rw [Try.ntmps5, Try.results5]
      (repeat (first | refine W_nil ?_ | (refine W_u fun N hN => ?_; simp [stepU, stepG, putQ, guardD, isQuiet, qv, nv, ev, stripS, strip, putS, upd_apply, st0, lenD, binD, binV, intBin, strBin, unD, indexAddrD, indexD, loadD, fieldD, fieldValD, partD, pickD, extractD, buildD, fillD, splice, mkAgg, allT, toT, D.cells, D.leaf, Value.cells, Value.oneCell', varBox, storeD, buildSliceD, pureRow, mkFn, convD, mmD, mmV, sliceD, bndD, okHead, calleeD, callD, Env.get, Env.getF, callF, frz, T.flat, appendD, rowsX, widthOk, rangeD, nextD, goInt, encProc, encPlace, hgl, hgc, hgr, l1, l2, l3, l4, l5, l6, l7, k1, k2, k3, k4, k5, k6, k7, c1, hsr]; refine hN _ ?_; clear hN N) | (refine W_g rfl fun N hN => ?_; simp [stepU, stepG, putQ, guardD, isQuiet, qv, nv, ev, stripS, strip, putS, upd_apply, st0, lenD, binD, binV, intBin, strBin, unD, indexAddrD, indexD, loadD, fieldD, fieldValD, partD, pickD, extractD, buildD, fillD, splice, mkAgg, allT, toT, D.cells, D.leaf, Value.cells, Value.oneCell', varBox, storeD, buildSliceD, pureRow, mkFn, convD, mmD, mmV, sliceD, bndD, okHead, calleeD, callD, Env.get, Env.getF, callF, frz, T.flat, appendD, rowsX, widthOk, rangeD, nextD, goInt, encProc, encPlace, hgl, hgc, hgr, l1, l2, l3, l4, l5, l6, l7, k1, k2, k3, k4, k5, k6, k7, c1, hsr]; refine hN _ ?_; clear hN N) | refine W_assoc ?_ | refine W_sskip ?_ | refine W_skip ?_ | refine W_sblock ?_ | refine W_block ?_ | refine W_sret ?_ | refine W_ret ?_ | refine W_sexit ?_ | refine W_exit ?_ | refine W_sreg (by first | exact .inl rfl | exact .inr (by kernel_rfl)) ?_ | refine W_reg (by first | exact .inl rfl | exact .inr (by kernel_rfl)) ?_))
      (first | (refine W_scond fun A B hA hB => ?_) | (refine W_cond fun A B hA hB => ?_)); simp [ev, stripS, strip, upd_apply]; refine condQ_bool (fun hc => hA ?_) (fun hc => hB ?_) <;> clear hA hB A B
      · (repeat (first | refine W_nil ?_ | (refine W_u fun N hN => ?_; simp [stepU, stepG, putQ, guardD, isQuiet, qv, nv, ev, stripS, strip, putS, upd_apply, st0, lenD, binD, binV, intBin, strBin, unD, indexAddrD, indexD, loadD, fieldD, fieldValD, partD, pickD, extractD, buildD, fillD, splice, mkAgg, allT, toT, D.cells, D.leaf, Value.cells, Value.oneCell', varBox, storeD, buildSliceD, pureRow, mkFn, convD, mmD, mmV, sliceD, bndD, okHead, calleeD, callD, Env.get, Env.getF, callF, frz, T.flat, appendD, rowsX, widthOk, rangeD, nextD, goInt, gTrue_at]; refine hN _ ?_; clear hN N) | (refine W_g rfl fun N hN => ?_; simp [stepU, stepG, putQ, guardD, isQuiet, qv, nv, ev, stripS, strip, putS, upd_apply, st0, lenD, binD, binV, intBin, strBin, unD, indexAddrD, indexD, loadD, fieldD, fieldValD, partD, pickD, extractD, buildD, fillD, splice, mkAgg, allT, toT, D.cells, D.leaf, Value.cells, Value.oneCell', varBox, storeD, buildSliceD, pureRow, mkFn, convD, mmD, mmV, sliceD, bndD, okHead, calleeD, callD, Env.get, Env.getF, callF, frz, T.flat, appendD, rowsX, widthOk, rangeD, nextD, goInt, gTrue_at]; refine hN _ ?_; clear hN N) | refine W_assoc ?_ | refine W_sskip ?_ | refine W_skip ?_ | refine W_sblock ?_ | refine W_block ?_ | refine W_sret ?_ | refine W_ret ?_ | refine W_sexit ?_ | refine W_exit ?_ | refine W_sreg (by first | exact .inl rfl | exact .inr (by kernel_rfl)) ?_ | refine W_reg (by first | exact .inl rfl | exact .inr (by kernel_rfl)) ?_))
        refine ⟨by simp, ?_⟩
        simp [resD, resL, loadD, frz, strip, upd_apply, T.canon, mkAgg, allT, toT]
      · clear hc
        (repeat (first | refine W_nil ?_ | (refine W_u fun N hN => ?_; simp [stepU, stepG, putQ, guardD, isQuiet, qv, nv, ev, stripS, strip, putS, upd_apply, st0, lenD, binD, binV, intBin, strBin, unD, indexAddrD, indexD, loadD, fieldD, fieldValD, partD, pickD, extractD, buildD, fillD, splice, mkAgg, allT, toT, D.cells, D.leaf, Value.cells, Value.oneCell', varBox, storeD, buildSliceD, pureRow, mkFn, convD, mmD, mmV, sliceD, bndD, okHead, calleeD, callD, Env.get, Env.getF, callF, frz, T.flat, appendD, rowsX, widthOk, rangeD, nextD, goInt, encProc, encPlace, hgl, hgc, l1, l2, l3, l4, l5, l6, l7, k1, k2, k3, k4, k5, k6, k7, c2, gTrue_at]; refine hN _ ?_; clear hN N) | (refine W_g rfl fun N hN => ?_; simp [stepU, stepG, putQ, guardD, isQuiet, qv, nv, ev, stripS, strip, putS, upd_apply, st0, lenD, binD, binV, intBin, strBin, unD, indexAddrD, indexD, loadD, fieldD, fieldValD, partD, pickD, extractD, buildD, fillD, splice, mkAgg, allT, toT, D.cells, D.leaf, Value.cells, Value.oneCell', varBox, storeD, buildSliceD, pureRow, mkFn, convD, mmD, mmV, sliceD, bndD, okHead, calleeD, callD, Env.get, Env.getF, callF, frz, T.flat, appendD, rowsX, widthOk, rangeD, nextD, goInt, encProc, encPlace, hgl, hgc, l1, l2, l3, l4, l5, l6, l7, k1, k2, k3, k4, k5, k6, k7, c2, gTrue_at]; refine hN _ ?_; clear hN N) | refine W_assoc ?_ | refine W_sskip ?_ | refine W_skip ?_ | refine W_sblock ?_ | refine W_block ?_ | refine W_sret ?_ | refine W_ret ?_ | refine W_sexit ?_ | refine W_exit ?_ | refine W_sreg (by first | exact .inl rfl | exact .inr (by kernel_rfl)) ?_ | refine W_reg (by first | exact .inl rfl | exact .inr (by kernel_rfl)) ?_))
        refine ⟨by simp, ?_⟩
        simp [resD, resL, loadD, frz, strip, upd_apply, T.canon, mkAgg, allT, toT]
    · cases h
  · cases h
end Go.Pv
