/-
  The chapter's examples.
-/
import Derived.Test.YtnepemjcinpohaaPfl
set_option linter.unusedSimpArgs false
namespace Go.Pv
open Go Go.Proofs

def oneP : Proc := ⟨{ data := #[87, 49] }, 1, 5, 20, .sl false [[sT { data := #[65] }], [sT { data := #[65, 72, 51, 54] }]], 400⟩
def gOne : List T → Option T
  | [] => some (.agg (encProc oneP))
  | _ => none
theorem fn_one31 : PureFn Try.prog 24 gOne := by
  refine pureFn_of (E := []) (EnvOk.nil _) mixed Try.func24 (by kernel_rfl) (c := _) rfl fun args r h => ?_
  unfold gOne at h
  split at h
  · cases h
    refine ⟨by simp [Try.ntmps24], fun hbd => ?_⟩
    rw [Try.ntmps24, Try.results24]
    (repeat (first | refine W_nil ?_ | (refine W_u fun N hN => ?_; simp [stepU, stepG, putQ, guardD, isQuiet, qv, nv, ev, stripS, strip, putS, upd_apply, st0, lenD, binD, binV, intBin, strBin, unD, indexAddrD, indexD, loadD, fieldD, fieldValD, partD, pickD, extractD, buildD, fillD, splice, mkAgg, allT, toT, D.cells, D.leaf, Value.cells, Value.oneCell', varBox, storeD, buildSliceD, pureRow, mkFn, convD, mmD, mmV, sliceD, bndD, okHead, calleeD, callD, Env.get, Env.getF, callF, frz, T.flat, appendD, rowsX, widthOk, rangeD, nextD, goInt]; refine hN _ ?_; clear hN N) | (refine W_g rfl fun N hN => ?_; simp [stepU, stepG, putQ, guardD, isQuiet, qv, nv, ev, stripS, strip, putS, upd_apply, st0, lenD, binD, binV, intBin, strBin, unD, indexAddrD, indexD, loadD, fieldD, fieldValD, partD, pickD, extractD, buildD, fillD, splice, mkAgg, allT, toT, D.cells, D.leaf, Value.cells, Value.oneCell', varBox, storeD, buildSliceD, pureRow, mkFn, convD, mmD, mmV, sliceD, bndD, okHead, calleeD, callD, Env.get, Env.getF, callF, frz, T.flat, appendD, rowsX, widthOk, rangeD, nextD, goInt]; refine hN _ ?_; clear hN N) | refine W_assoc ?_ | refine W_sskip ?_ | refine W_skip ?_ | refine W_sblock ?_ | refine W_block ?_ | refine W_sret ?_ | refine W_ret ?_ | refine W_sexit ?_ | refine W_exit ?_ | refine W_sreg (by first | exact .inl rfl | exact .inr (by kernel_rfl)) ?_ | refine W_reg (by first | exact .inl rfl | exact .inr (by kernel_rfl)) ?_))
    refine ⟨by simp, ?_⟩
    simp [resD, resL, loadD, frz, strip, upd_apply, T.canon, mkAgg, allT, toT, encProc, oneP]
  · cases h
def gTrue : List T → Option T
  | [] => some (bT true)
  | _ => none
theorem fn_awake31 : PureFn Try.prog 11 gTrue := by
  refine pureFn_of (E := [(24, .pure gOne), (12, .pure gFind), (16, .pure gSame), (14, .pure gCheck), (17, .pure gFits), (20, .pure gFor), (22, .pure gHours)]) (EnvOk.cons fn_one31 (EnvOk.cons fn_find (EnvOk.cons fn_same (EnvOk.cons fn_check (EnvOk.cons fn_fits (EnvOk.cons fn_for (EnvOk.cons fn_hours (EnvOk.nil _)))))))) mixed Try.func11 (by kernel_rfl) (c := _) rfl fun args r h => ?_
  unfold gTrue at h
  split at h
  · cases h
    refine ⟨by simp [Try.ntmps11], fun hbd => ?_⟩
    rw [Try.ntmps11, Try.results11]
    (repeat (first | refine W_nil ?_ | (refine W_u fun N hN => ?_; simp [stepU, stepG, putQ, guardD, isQuiet, qv, nv, ev, stripS, strip, putS, upd_apply, st0, lenD, binD, binV, intBin, strBin, unD, indexAddrD, indexD, loadD, fieldD, fieldValD, partD, pickD, extractD, buildD, fillD, splice, mkAgg, allT, toT, D.cells, D.leaf, Value.cells, Value.oneCell', varBox, storeD, buildSliceD, pureRow, mkFn, convD, mmD, mmV, sliceD, bndD, okHead, calleeD, callD, Env.get, Env.getF, callF, frz, T.flat, appendD, rowsX, widthOk, rangeD, nextD, goInt, gOne, encProc, oneP]; refine hN _ ?_; clear hN N) | (refine W_g rfl fun N hN => ?_; simp [stepU, stepG, putQ, guardD, isQuiet, qv, nv, ev, stripS, strip, putS, upd_apply, st0, lenD, binD, binV, intBin, strBin, unD, indexAddrD, indexD, loadD, fieldD, fieldValD, partD, pickD, extractD, buildD, fillD, splice, mkAgg, allT, toT, D.cells, D.leaf, Value.cells, Value.oneCell', varBox, storeD, buildSliceD, pureRow, mkFn, convD, mmD, mmV, sliceD, bndD, okHead, calleeD, callD, Env.get, Env.getF, callF, frz, T.flat, appendD, rowsX, widthOk, rangeD, nextD, goInt, gOne, encProc, oneP]; refine hN _ ?_; clear hN N) | refine W_assoc ?_ | refine W_sskip ?_ | refine W_skip ?_ | refine W_sblock ?_ | refine W_block ?_ | refine W_sret ?_ | refine W_ret ?_ | refine W_sexit ?_ | refine W_exit ?_ | refine W_sreg (by first | exact .inl rfl | exact .inr (by kernel_rfl)) ?_ | refine W_reg (by first | exact .inl rfl | exact .inr (by kernel_rfl)) ?_))
    refine ⟨by simp, ?_⟩
    simp [resD, resL, loadD, frz, strip, upd_apply, T.canon, mkAgg, allT, toT]
    refine ⟨⟨⟨⟨⟨⟨⟨⟨?_, ?_⟩, ?_⟩, ?_⟩, ?_⟩, ?_⟩, ?_⟩, ?_⟩, ?_⟩ <;> first | kernel_rfl | decide +kernel
  · cases h
end Go.Pv
