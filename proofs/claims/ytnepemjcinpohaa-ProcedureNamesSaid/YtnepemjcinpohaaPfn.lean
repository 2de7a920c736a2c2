/-
  The statements' own functions.
-/
import Derived.Test.YtnepemjcinpohaaPfm
set_option linter.unusedSimpArgs false
namespace Go.Pv
open Go Go.Proofs

def gLawHours : List T → Option T
  | [.agg p, .agg s] => match decProc p, decSeam s with
    | some _, some _ => some (bT true)
    | _, _ => none
  | _ => none
theorem hours_spec (p : Proc) (s : Seam) : hours p s = 0 ∨ (0 ≤ hours p s ∧ hours p s ≤ 140000 ∧ 1 ≤ p.speed ∧ p.speed ≤ 100000 ∧ 1 ≤ s.length ∧ s.length ≤ 32768 ∧ s.length ≤ hours p s * p.speed ∧ (hours p s - 1) * p.speed < s.length) := by
  unfold hours
  split
  · rename_i h
    obtain ⟨h1, h2, h3, h4⟩ := h
    right
    have e0 := Int.emod_nonneg (s.length + p.speed - 1) (show p.speed ≠ 0 by omega)
    have e1 := Int.emod_lt_of_pos (s.length + p.speed - 1) (show 0 < p.speed by omega)
    have e2 := Int.mul_ediv_add_emod (s.length + p.speed - 1) p.speed
    have e3 : 0 ≤ (s.length + p.speed - 1) / p.speed := Int.ediv_nonneg (by omega) (by omega)
    have e4 : (s.length + p.speed - 1) / p.speed ≤ s.length + p.speed - 1 := Int.ediv_le_self _ (by omega)
    generalize (s.length + p.speed - 1) / p.speed = q at *
    rw [Int.mul_comm] at e2
    refine ⟨e3, by omega, h1, h2, h3, h4, by omega, ?_⟩
    rw [Int.sub_mul]
    omega
  · exact .inl rfl
theorem fn_lawHours : PureFn Try.prog 6 gLawHours := by
  refine pureFn_of (E := [(22, .pure gHours), (23, .pure gHours), (11, .pure gTrue)]) (EnvOk.cons fn_hours (EnvOk.cons fn_hours31 (EnvOk.cons fn_awake31 (EnvOk.nil _)))) mixed Try.func6 (by kernel_rfl) (c := _) rfl fun args r h => ?_
  unfold gLawHours at h
  split at h
  · rename_i pr sr
    split at h
    · rename_i p s hp hs
      cases h
      have hgl := (strsOk_leaf (decProc_ok hp)).1
      have hgc := (strsOk_leaf (decProc_ok hp)).2
      have hp' := decProc_spec _ _ hp
      have hs' := decSeam_spec _ _ hs
      subst hp' hs'
      have hh : gHours [.agg [sT p.name, iT p.kind, iT p.lo, iT p.hi, p.g, iT p.speed], .agg [sT s.id, sT s.a, sT s.b, iT s.kind, iT s.length, iT s.cls]] = some (iT (hours p s)) := by
        show (match decProc (encProc p), decSeam (encSeam s) with
          | some p, some s => some (iT (hours p s))
          | _, _ => none) = _
        rw [hp, hs]
      refine ⟨by simp [Try.ntmps6], fun hbd => ?_⟩
      rw [Try.ntmps6, Try.results6]
      (repeat (first | refine W_nil ?_ | (refine W_u fun N hN => ?_; simp [stepU, stepG, putQ, guardD, isQuiet, qv, nv, ev, stripS, strip, putS, upd_apply, st0, lenD, binD, binV, intBin, strBin, unD, indexAddrD, indexD, loadD, fieldD, fieldValD, partD, pickD, extractD, buildD, fillD, splice, mkAgg, allT, toT, D.cells, D.leaf, Value.cells, Value.oneCell', varBox, storeD, buildSliceD, pureRow, mkFn, convD, mmD, mmV, sliceD, bndD, okHead, calleeD, callD, Env.get, Env.getF, callF, frz, T.flat, appendD, rowsX, widthOk, rangeD, nextD, goInt, encProc, encSeam, hgl, hgc, hh]; refine hN _ ?_; clear hN N) | (refine W_g rfl fun N hN => ?_; simp [stepU, stepG, putQ, guardD, isQuiet, qv, nv, ev, stripS, strip, putS, upd_apply, st0, lenD, binD, binV, intBin, strBin, unD, indexAddrD, indexD, loadD, fieldD, fieldValD, partD, pickD, extractD, buildD, fillD, splice, mkAgg, allT, toT, D.cells, D.leaf, Value.cells, Value.oneCell', varBox, storeD, buildSliceD, pureRow, mkFn, convD, mmD, mmV, sliceD, bndD, okHead, calleeD, callD, Env.get, Env.getF, callF, frz, T.flat, appendD, rowsX, widthOk, rangeD, nextD, goInt, encProc, encSeam, hgl, hgc, hh]; refine hN _ ?_; clear hN N) | refine W_assoc ?_ | refine W_sskip ?_ | refine W_skip ?_ | refine W_sblock ?_ | refine W_block ?_ | refine W_sret ?_ | refine W_ret ?_ | refine W_sexit ?_ | refine W_exit ?_ | refine W_sreg (by first | exact .inl rfl | exact .inr (by kernel_rfl)) ?_ | refine W_reg (by first | exact .inl rfl | exact .inr (by kernel_rfl)) ?_))
      (first | (refine W_scond fun A B hA hB => ?_) | (refine W_cond fun A B hA hB => ?_)); simp [ev, stripS, strip, upd_apply]; refine condQ_false (hB ?_); clear hA hB A B
      (repeat (first | refine W_nil ?_ | (refine W_u fun N hN => ?_; simp [stepU, stepG, putQ, guardD, isQuiet, qv, nv, ev, stripS, strip, putS, upd_apply, st0, lenD, binD, binV, intBin, strBin, unD, indexAddrD, indexD, loadD, fieldD, fieldValD, partD, pickD, extractD, buildD, fillD, splice, mkAgg, allT, toT, D.cells, D.leaf, Value.cells, Value.oneCell', varBox, storeD, buildSliceD, pureRow, mkFn, convD, mmD, mmV, sliceD, bndD, okHead, calleeD, callD, Env.get, Env.getF, callF, frz, T.flat, appendD, rowsX, widthOk, rangeD, nextD, goInt, encProc, encSeam, hgl, hgc, gTrue]; refine hN _ ?_; clear hN N) | (refine W_g rfl fun N hN => ?_; simp [stepU, stepG, putQ, guardD, isQuiet, qv, nv, ev, stripS, strip, putS, upd_apply, st0, lenD, binD, binV, intBin, strBin, unD, indexAddrD, indexD, loadD, fieldD, fieldValD, partD, pickD, extractD, buildD, fillD, splice, mkAgg, allT, toT, D.cells, D.leaf, Value.cells, Value.oneCell', varBox, storeD, buildSliceD, pureRow, mkFn, convD, mmD, mmV, sliceD, bndD, okHead, calleeD, callD, Env.get, Env.getF, callF, frz, T.flat, appendD, rowsX, widthOk, rangeD, nextD, goInt, encProc, encSeam, hgl, hgc, gTrue]; refine hN _ ?_; clear hN N) | refine W_assoc ?_ | refine W_sskip ?_ | refine W_skip ?_ | refine W_sblock ?_ | refine W_block ?_ | refine W_sret ?_ | refine W_ret ?_ | refine W_sexit ?_ | refine W_exit ?_ | refine W_sreg (by first | exact .inl rfl | exact .inr (by kernel_rfl)) ?_ | refine W_reg (by first | exact .inl rfl | exact .inr (by kernel_rfl)) ?_))
      refine ⟨by simp, ?_⟩
      simp [resD, resL, loadD, frz, strip, upd_apply, T.canon, mkAgg, allT, toT]
      rcases hours_spec p s with h | ⟨h1, h2, h3, h4, h5, h6, h7, h8⟩
      · exact .inl h
      · right
        have e1 : hours p s * p.speed = (hours p s - 1) * p.speed + p.speed := by rw [Int.sub_mul]; omega
        rw [wrap_id (hours p s - 1) (by omega) (by omega)]
        rw [wrap_id (hours p s * p.speed) (by omega) (by omega)]
        rw [wrap_id ((hours p s - 1) * p.speed) (by omega) (by omega)]
        exact ⟨h7, h8⟩
    · cases h
  · cases h
end Go.Pv
