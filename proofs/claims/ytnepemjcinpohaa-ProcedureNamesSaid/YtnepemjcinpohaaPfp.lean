/-
  The statements' own functions, second part.
-/
import Derived.Test.YtnepemjcinpohaaPfn
set_option linter.unusedSimpArgs false
namespace Go.Pv
open Go Go.Proofs

/-! ### What calls come to -/
theorem gCheck_at {a : T} {l : List Proc} (h : asProcs a = some l) : gCheck [a] = some (iT (check l)) := by
  show (asProcs a).map _ = _
  rw [h]; rfl
theorem gLight_at {a : T} {l : List Proc} (h : asProcs a = some l) : gLight [a] = some (bT (light l)) := by
  show (asProcs a).map _ = _
  rw [h]; rfl
theorem gFind_at {a : T} {l : List Proc} (h : asProcs a = some l) (n : ByteArray) : gFind [a, sT n] = some (match l.find? (fun p => decide (p.name = n)) with | some p => .tup [outProc p, bT true] | none => .tup [noProc, bT false]) := by
  show (asProcs a).map _ = _
  rw [h]; rfl
theorem gFor_at {p : Proc} {d : Design} {m : Mat} (hp : decProc (encProc p) = some p) (hd : decDesign (encDesign d) = some d) (hm : decMat (encMat m) = some m) (id : ByteArray) :
    gFor [.agg [sT p.name, iT p.kind, iT p.lo, iT p.hi, p.g, iT p.speed], .agg [sT d.hull, d.nodes, d.parts, d.seams, d.packs, d.needs], .agg [m.grades, m.sections], sT id] = some (iT (for_ p d m id)) := by
  show (match decProc (encProc p), decDesign (encDesign d), decMat (encMat m) with
    | some p, some d, some m => some (iT (for_ p d m id))
    | _, _, _ => none) = _
  rw [hp, hd, hm]
theorem gTrue_at : gTrue [] = some (bT true) := rfl

/-! ### ProcedureChecks -/
def gLawChecks : List T → Option T
  | [a, .v (.string _)] => (asProcs a).map fun _ => bT true
  | _ => none
/-- A procedure that was handed back is the same. -/
def outP (p : Proc) : Proc := ⟨p.name, p.kind, p.lo, p.hi, .sl false ((strs p.g).map encS), p.speed⟩
theorem outP_strs (p : Proc) : strs (outP p).g = strs p.g := by
  have : asStrs (.sl false ((strs p.g).map encS)) = some (strs p.g) := asL_of (enc := encS) (fun _ => rfl) rfl
  simp [strs, outP] at this ⊢
  rw [this]; rfl
theorem outP_dec {p : Proc} (h : strsOk p.g = true) : decProc [sT p.name, iT p.kind, iT p.lo, iT p.hi, .sl false ((strs p.g).map encS), iT p.speed] = some (outP p) := by
  have : strsOk (.sl false ((strs p.g).map encS)) = true := by
    have h1 : asStrs (.sl false ((strs p.g).map encS)) = some (strs p.g) := asL_of (enc := encS) (fun _ => rfl) rfl
    have h2 := (strsOk_spec h).2
    unfold strsOk
    rw [h1]
    simpa using h2
  simp [decProc, this, outP]
theorem same_out (p q : Proc) : same (outP p) (outP q) = same p q := by
  unfold same
  rw [outP_strs, outP_strs]
  rfl
theorem same_refl (p : Proc) : same p p = true := by simp [same]
theorem gSame_out {p q : Proc} (hp : strsOk p.g = true) (hq : strsOk q.g = true) : gSame [outProc p, outProc q] = some (bT (same p q)) := by
  show (match decProc [sT p.name, iT p.kind, iT p.lo, iT p.hi, .sl false ((strs p.g).map encS), iT p.speed], decProc [sT q.name, iT q.kind, iT q.lo, iT q.hi, .sl false ((strs q.g).map encS), iT q.speed] with
    | some p, some q => some (bT (same p q))
    | _, _ => none) = _
  rw [outP_dec hp, outP_dec hq]
  simp only [same_out]
def zeroP : Proc := ⟨{ data := #[] }, 0, 0, 0, .sl false [], 0⟩
theorem fn_lawChecks : PureFn Try.prog 3 gLawChecks := by
  refine pureFn_of (E := [(10, .pure gLight), (11, .pure gTrue), (12, .pure gFind), (13, .pure gFind), (14, .pure gCheck), (15, .pure gCheck), (16, .pure gSame)]) (EnvOk.cons fn_light31 (EnvOk.cons fn_awake31 (EnvOk.cons fn_find (EnvOk.cons fn_find31 (EnvOk.cons fn_check (EnvOk.cons fn_check31 (EnvOk.cons fn_same (EnvOk.nil _)))))))) mixed Try.func3 (by kernel_rfl) (c := _) rfl fun args r h => ?_
  unfold gLawChecks at h
  split at h
  · rename_i a n
    simp only [Option.map_eq_some_iff] at h
    obtain ⟨l, hl, rfl⟩ := h
    have hok := (asProcs_spec hl).2
    have c1 := gCheck_at hl
    have c2 := gLight_at hl
    have c3 := gFind_at hl n
    refine ⟨by simp [Try.ntmps3], fun hbd => ?_⟩
    rw [Try.ntmps3, Try.results3]
    (repeat (first | refine W_nil ?_ | (refine W_u fun N hN => ?_; simp [stepU, stepG, putQ, guardD, isQuiet, qv, nv, ev, stripS, strip, putS, upd_apply, st0, lenD, binD, binV, intBin, strBin, unD, indexAddrD, indexD, loadD, fieldD, fieldValD, partD, pickD, extractD, buildD, fillD, splice, mkAgg, allT, toT, D.cells, D.leaf, Value.cells, Value.oneCell', varBox, storeD, buildSliceD, pureRow, mkFn, convD, mmD, mmV, sliceD, bndD, okHead, calleeD, callD, Env.get, Env.getF, callF, frz, T.flat, appendD, rowsX, widthOk, rangeD, nextD, goInt, c2]; refine hN _ ?_; clear hN N) | (refine W_g rfl fun N hN => ?_; simp [stepU, stepG, putQ, guardD, isQuiet, qv, nv, ev, stripS, strip, putS, upd_apply, st0, lenD, binD, binV, intBin, strBin, unD, indexAddrD, indexD, loadD, fieldD, fieldValD, partD, pickD, extractD, buildD, fillD, splice, mkAgg, allT, toT, D.cells, D.leaf, Value.cells, Value.oneCell', varBox, storeD, buildSliceD, pureRow, mkFn, convD, mmD, mmV, sliceD, bndD, okHead, calleeD, callD, Env.get, Env.getF, callF, frz, T.flat, appendD, rowsX, widthOk, rangeD, nextD, goInt, c2]; refine hN _ ?_; clear hN N) | refine W_assoc ?_ | refine W_sskip ?_ | refine W_skip ?_ | refine W_sblock ?_ | refine W_block ?_ | refine W_sret ?_ | refine W_ret ?_ | refine W_sexit ?_ | refine W_exit ?_ | refine W_sreg (by first | exact .inl rfl | exact .inr (by kernel_rfl)) ?_ | refine W_reg (by first | exact .inl rfl | exact .inr (by kernel_rfl)) ?_))
    (first | (refine W_scond fun A B hA hB => ?_) | (refine W_cond fun A B hA hB => ?_)); simp [ev, stripS, strip, upd_apply]; refine condQ_bool (fun hc => hA ?_) (fun hc => hB ?_) <;> clear hA hB A B
    · (repeat (first | refine W_nil ?_ | (refine W_u fun N hN => ?_; simp [stepU, stepG, putQ, guardD, isQuiet, qv, nv, ev, stripS, strip, putS, upd_apply, st0, lenD, binD, binV, intBin, strBin, unD, indexAddrD, indexD, loadD, fieldD, fieldValD, partD, pickD, extractD, buildD, fillD, splice, mkAgg, allT, toT, D.cells, D.leaf, Value.cells, Value.oneCell', varBox, storeD, buildSliceD, pureRow, mkFn, convD, mmD, mmV, sliceD, bndD, okHead, calleeD, callD, Env.get, Env.getF, callF, frz, T.flat, appendD, rowsX, widthOk, rangeD, nextD, goInt, gTrue_at]; refine hN _ ?_; clear hN N) | (refine W_g rfl fun N hN => ?_; simp [stepU, stepG, putQ, guardD, isQuiet, qv, nv, ev, stripS, strip, putS, upd_apply, st0, lenD, binD, binV, intBin, strBin, unD, indexAddrD, indexD, loadD, fieldD, fieldValD, partD, pickD, extractD, buildD, fillD, splice, mkAgg, allT, toT, D.cells, D.leaf, Value.cells, Value.oneCell', varBox, storeD, buildSliceD, pureRow, mkFn, convD, mmD, mmV, sliceD, bndD, okHead, calleeD, callD, Env.get, Env.getF, callF, frz, T.flat, appendD, rowsX, widthOk, rangeD, nextD, goInt, gTrue_at]; refine hN _ ?_; clear hN N) | refine W_assoc ?_ | refine W_sskip ?_ | refine W_skip ?_ | refine W_sblock ?_ | refine W_block ?_ | refine W_sret ?_ | refine W_ret ?_ | refine W_sexit ?_ | refine W_exit ?_ | refine W_sreg (by first | exact .inl rfl | exact .inr (by kernel_rfl)) ?_ | refine W_reg (by first | exact .inl rfl | exact .inr (by kernel_rfl)) ?_))
      refine ⟨by simp, ?_⟩
      simp [resD, resL, loadD, frz, strip, upd_apply, T.canon, mkAgg, allT, toT]
    · clear hc
      cases hf : l.find? (fun p => decide (p.name = n)) with
      | none =>
        rw [hf] at c3
        have hs : gSame [noProc, noProc] = some (bT true) := by kernel_rfl
        simp only [noProc] at hs c3
        (repeat (first | refine W_nil ?_ | (refine W_u fun N hN => ?_; simp [stepU, stepG, putQ, guardD, isQuiet, qv, nv, ev, stripS, strip, putS, upd_apply, st0, lenD, binD, binV, intBin, strBin, unD, indexAddrD, indexD, loadD, fieldD, fieldValD, partD, pickD, extractD, buildD, fillD, splice, mkAgg, allT, toT, D.cells, D.leaf, Value.cells, Value.oneCell', varBox, storeD, buildSliceD, pureRow, mkFn, convD, mmD, mmV, sliceD, bndD, okHead, calleeD, callD, Env.get, Env.getF, callF, frz, T.flat, appendD, rowsX, widthOk, rangeD, nextD, goInt, c1, c3, hs, gTrue_at]; refine hN _ ?_; clear hN N) | (refine W_g rfl fun N hN => ?_; simp [stepU, stepG, putQ, guardD, isQuiet, qv, nv, ev, stripS, strip, putS, upd_apply, st0, lenD, binD, binV, intBin, strBin, unD, indexAddrD, indexD, loadD, fieldD, fieldValD, partD, pickD, extractD, buildD, fillD, splice, mkAgg, allT, toT, D.cells, D.leaf, Value.cells, Value.oneCell', varBox, storeD, buildSliceD, pureRow, mkFn, convD, mmD, mmV, sliceD, bndD, okHead, calleeD, callD, Env.get, Env.getF, callF, frz, T.flat, appendD, rowsX, widthOk, rangeD, nextD, goInt, c1, c3, hs, gTrue_at]; refine hN _ ?_; clear hN N) | refine W_assoc ?_ | refine W_sskip ?_ | refine W_skip ?_ | refine W_sblock ?_ | refine W_block ?_ | refine W_sret ?_ | refine W_ret ?_ | refine W_sexit ?_ | refine W_exit ?_ | refine W_sreg (by first | exact .inl rfl | exact .inr (by kernel_rfl)) ?_ | refine W_reg (by first | exact .inl rfl | exact .inr (by kernel_rfl)) ?_))
        refine ⟨by simp, ?_⟩
        simp [resD, resL, loadD, frz, strip, upd_apply, T.canon, mkAgg, allT, toT]
      | some p =>
        rw [hf] at c3
        have hs := gSame_out (hok p (List.mem_of_find?_eq_some hf)) (hok p (List.mem_of_find?_eq_some hf))
        rw [same_refl] at hs
        simp only [outProc] at hs c3
        (repeat (first | refine W_nil ?_ | (refine W_u fun N hN => ?_; simp [stepU, stepG, putQ, guardD, isQuiet, qv, nv, ev, stripS, strip, putS, upd_apply, st0, lenD, binD, binV, intBin, strBin, unD, indexAddrD, indexD, loadD, fieldD, fieldValD, partD, pickD, extractD, buildD, fillD, splice, mkAgg, allT, toT, D.cells, D.leaf, Value.cells, Value.oneCell', varBox, storeD, buildSliceD, pureRow, mkFn, convD, mmD, mmV, sliceD, bndD, okHead, calleeD, callD, Env.get, Env.getF, callF, frz, T.flat, appendD, rowsX, widthOk, rangeD, nextD, goInt, c1, c3, hs, gTrue_at]; refine hN _ ?_; clear hN N) | (refine W_g rfl fun N hN => ?_; simp [stepU, stepG, putQ, guardD, isQuiet, qv, nv, ev, stripS, strip, putS, upd_apply, st0, lenD, binD, binV, intBin, strBin, unD, indexAddrD, indexD, loadD, fieldD, fieldValD, partD, pickD, extractD, buildD, fillD, splice, mkAgg, allT, toT, D.cells, D.leaf, Value.cells, Value.oneCell', varBox, storeD, buildSliceD, pureRow, mkFn, convD, mmD, mmV, sliceD, bndD, okHead, calleeD, callD, Env.get, Env.getF, callF, frz, T.flat, appendD, rowsX, widthOk, rangeD, nextD, goInt, c1, c3, hs, gTrue_at]; refine hN _ ?_; clear hN N) | refine W_assoc ?_ | refine W_sskip ?_ | refine W_skip ?_ | refine W_sblock ?_ | refine W_block ?_ | refine W_sret ?_ | refine W_ret ?_ | refine W_sexit ?_ | refine W_exit ?_ | refine W_sreg (by first | exact .inl rfl | exact .inr (by kernel_rfl)) ?_ | refine W_reg (by first | exact .inl rfl | exact .inr (by kernel_rfl)) ?_))
        refine ⟨by simp, ?_⟩
        simp [resD, resL, loadD, frz, strip, upd_apply, T.canon, mkAgg, allT, toT]
  · cases h

/-! ### ProcedureFits -/
structure Joint where
  kind : Int
  thick : Int
  g : T
def encJoint (j : Joint) : List T := [iT j.kind, iT j.thick, j.g]
def decJoint : List T → Option Joint
  | [.v (.int .i64 k), .v (.int .i64 t), g] => if strsOk g = true then some ⟨k, t, g⟩ else none
  | _ => none
theorem decJoint_spec (r : List T) (j : Joint) (h : decJoint r = some j) : r = encJoint j ∧ strsOk j.g = true := by
  unfold decJoint at h
  split at h
  · split at h
    · rename_i hs; cases h; exact ⟨rfl, hs⟩
    · cases h
  · cases h
def gLawJoint : List T → Option T
  | [.agg p, .agg j] => match decProc p, decJoint j with
    | some _, some _ => some (bT true)
    | _, _ => none
  | _ => none
theorem fn_lawFits : PureFn Try.prog 4 gLawJoint := by
  refine pureFn_of (E := [(11, .pure gTrue), (17, .pure gFits), (18, .pure gFits)]) (EnvOk.cons fn_awake31 (EnvOk.cons fn_fits (EnvOk.cons fn_fits31 (EnvOk.nil _)))) mixed Try.func4 (by kernel_rfl) (c := _) rfl fun args r h => ?_
  unfold gLawJoint at h
  split at h
  · rename_i pr jr
    split at h
    · rename_i p j hp hj
      cases h
      have hgl := (strsOk_leaf (decProc_ok hp)).1
      have hgc := (strsOk_leaf (decProc_ok hp)).2
      obtain ⟨fg, hgr⟩ := strsOk_rows (decProc_ok hp)
      obtain ⟨hj', hjok⟩ := decJoint_spec _ _ hj
      have hjl := (strsOk_leaf hjok).1
      have hjc := (strsOk_leaf hjok).2
      obtain ⟨fj, hjr⟩ := strsOk_rows hjok
      have hp' := decProc_spec _ _ hp
      subst hp' hj'
      have hfi := gFits_at hp j.kind j.thick (strsOk_spec hjok).1
      refine ⟨by simp [Try.ntmps4], fun hbd => ?_⟩
      rw [Try.ntmps4, Try.results4]
      (repeat (first | refine W_nil ?_ | (refine W_u fun N hN => ?_; simp [stepU, stepG, putQ, guardD, isQuiet, qv, nv, ev, stripS, strip, putS, upd_apply, st0, lenD, binD, binV, intBin, strBin, unD, indexAddrD, indexD, loadD, fieldD, fieldValD, partD, pickD, extractD, buildD, fillD, splice, mkAgg, allT, toT, D.cells, D.leaf, Value.cells, Value.oneCell', varBox, storeD, buildSliceD, pureRow, mkFn, convD, mmD, mmV, sliceD, bndD, okHead, calleeD, callD, Env.get, Env.getF, callF, frz, T.flat, appendD, rowsX, widthOk, rangeD, nextD, goInt, encProc, encJoint, hgl, hgc, hgr, hjl, hjc, hjr]; refine hN _ ?_; clear hN N) | (refine W_g rfl fun N hN => ?_; simp [stepU, stepG, putQ, guardD, isQuiet, qv, nv, ev, stripS, strip, putS, upd_apply, st0, lenD, binD, binV, intBin, strBin, unD, indexAddrD, indexD, loadD, fieldD, fieldValD, partD, pickD, extractD, buildD, fillD, splice, mkAgg, allT, toT, D.cells, D.leaf, Value.cells, Value.oneCell', varBox, storeD, buildSliceD, pureRow, mkFn, convD, mmD, mmV, sliceD, bndD, okHead, calleeD, callD, Env.get, Env.getF, callF, frz, T.flat, appendD, rowsX, widthOk, rangeD, nextD, goInt, encProc, encJoint, hgl, hgc, hgr, hjl, hjc, hjr]; refine hN _ ?_; clear hN N) | refine W_assoc ?_ | refine W_sskip ?_ | refine W_skip ?_ | refine W_sblock ?_ | refine W_block ?_ | refine W_sret ?_ | refine W_ret ?_ | refine W_sexit ?_ | refine W_exit ?_ | refine W_sreg (by first | exact .inl rfl | exact .inr (by kernel_rfl)) ?_ | refine W_reg (by first | exact .inl rfl | exact .inr (by kernel_rfl)) ?_))
      (first | (refine W_scond fun A B hA hB => ?_) | (refine W_cond fun A B hA hB => ?_)); simp [ev, stripS, strip, upd_apply]; refine condQ_bool (fun hc => hA ?_) (fun hc => hB ?_) <;> clear hA hB A B
      · (repeat (first | refine W_nil ?_ | (refine W_u fun N hN => ?_; simp [stepU, stepG, putQ, guardD, isQuiet, qv, nv, ev, stripS, strip, putS, upd_apply, st0, lenD, binD, binV, intBin, strBin, unD, indexAddrD, indexD, loadD, fieldD, fieldValD, partD, pickD, extractD, buildD, fillD, splice, mkAgg, allT, toT, D.cells, D.leaf, Value.cells, Value.oneCell', varBox, storeD, buildSliceD, pureRow, mkFn, convD, mmD, mmV, sliceD, bndD, okHead, calleeD, callD, Env.get, Env.getF, callF, frz, T.flat, appendD, rowsX, widthOk, rangeD, nextD, goInt, gTrue_at]; refine hN _ ?_; clear hN N) | (refine W_g rfl fun N hN => ?_; simp [stepU, stepG, putQ, guardD, isQuiet, qv, nv, ev, stripS, strip, putS, upd_apply, st0, lenD, binD, binV, intBin, strBin, unD, indexAddrD, indexD, loadD, fieldD, fieldValD, partD, pickD, extractD, buildD, fillD, splice, mkAgg, allT, toT, D.cells, D.leaf, Value.cells, Value.oneCell', varBox, storeD, buildSliceD, pureRow, mkFn, convD, mmD, mmV, sliceD, bndD, okHead, calleeD, callD, Env.get, Env.getF, callF, frz, T.flat, appendD, rowsX, widthOk, rangeD, nextD, goInt, gTrue_at]; refine hN _ ?_; clear hN N) | refine W_assoc ?_ | refine W_sskip ?_ | refine W_skip ?_ | refine W_sblock ?_ | refine W_block ?_ | refine W_sret ?_ | refine W_ret ?_ | refine W_sexit ?_ | refine W_exit ?_ | refine W_sreg (by first | exact .inl rfl | exact .inr (by kernel_rfl)) ?_ | refine W_reg (by first | exact .inl rfl | exact .inr (by kernel_rfl)) ?_))
        refine ⟨by simp, ?_⟩
        simp [resD, resL, loadD, frz, strip, upd_apply, T.canon, mkAgg, allT, toT]
      · clear hc
        (repeat (first | refine W_nil ?_ | (refine W_u fun N hN => ?_; simp [stepU, stepG, putQ, guardD, isQuiet, qv, nv, ev, stripS, strip, putS, upd_apply, st0, lenD, binD, binV, intBin, strBin, unD, indexAddrD, indexD, loadD, fieldD, fieldValD, partD, pickD, extractD, buildD, fillD, splice, mkAgg, allT, toT, D.cells, D.leaf, Value.cells, Value.oneCell', varBox, storeD, buildSliceD, pureRow, mkFn, convD, mmD, mmV, sliceD, bndD, okHead, calleeD, callD, Env.get, Env.getF, callF, frz, T.flat, appendD, rowsX, widthOk, rangeD, nextD, goInt, encProc, encJoint, hgl, hgc, hjl, hjc, hfi, gTrue_at]; refine hN _ ?_; clear hN N) | (refine W_g rfl fun N hN => ?_; simp [stepU, stepG, putQ, guardD, isQuiet, qv, nv, ev, stripS, strip, putS, upd_apply, st0, lenD, binD, binV, intBin, strBin, unD, indexAddrD, indexD, loadD, fieldD, fieldValD, partD, pickD, extractD, buildD, fillD, splice, mkAgg, allT, toT, D.cells, D.leaf, Value.cells, Value.oneCell', varBox, storeD, buildSliceD, pureRow, mkFn, convD, mmD, mmV, sliceD, bndD, okHead, calleeD, callD, Env.get, Env.getF, callF, frz, T.flat, appendD, rowsX, widthOk, rangeD, nextD, goInt, encProc, encJoint, hgl, hgc, hjl, hjc, hfi, gTrue_at]; refine hN _ ?_; clear hN N) | refine W_assoc ?_ | refine W_sskip ?_ | refine W_skip ?_ | refine W_sblock ?_ | refine W_block ?_ | refine W_sret ?_ | refine W_ret ?_ | refine W_sexit ?_ | refine W_exit ?_ | refine W_sreg (by first | exact .inl rfl | exact .inr (by kernel_rfl)) ?_ | refine W_reg (by first | exact .inl rfl | exact .inr (by kernel_rfl)) ?_))
        refine ⟨by simp, ?_⟩
        simp [resD, resL, loadD, frz, strip, upd_apply, T.canon, mkAgg, allT, toT]
    · cases h
  · cases h
end Go.Pv
