/-
  The statements' own functions, fifth part.
-/
import Derived.Test.YtnepemjcinpohaaPfq
set_option linter.unusedSimpArgs false
namespace Go.Pv
open Go Go.Proofs

/-! ### ProcedureEach -/
def eachOk (p : Proc) (k t : Int) (gs : List ByteArray) : Bool := decide (fits p k t [] = 0) && gs.all fun g => decide (fits p k t [g] = 0)
theorem fits_each (p : Proc) (k t : Int) (gs : List ByteArray) : decide (fits p k t gs = 0) = eachOk p k t gs := by
  unfold eachOk fits
  by_cases hk : k = p.kind
  · simp only [hk, ne_eq, not_true_eq_false, if_false]
    by_cases hr : p.lo ≤ t ∧ t ≤ p.hi
    · simp only [hr, and_self, not_true_eq_false, if_false]
      induction gs with
      | nil => simp
      | cons g gs ih =>
        simp only [List.all_cons, List.all_nil, Bool.and_true] at ih ⊢
        simp only [if_true, decide_true, Bool.true_and] at ih ⊢
        rw [← ih]
        by_cases hg : ((strs p.g).any fun y => decide (y = g)) = true
        · simp only [hg, Bool.true_and, if_true, decide_true]
        · simp only [hg, Bool.false_and, Bool.false_eq_true, if_false]; rfl
    · simp [hr]
  · simp [hk]
theorem eachOk_take (p : Proc) (k t : Int) (gs : List ByteArray) (i : Nat) (h : i < gs.length) : eachOk p k t (gs.take (i + 1)) = (eachOk p k t (gs.take i) && decide (fits p k t [gs[i]] = 0)) := by
  unfold eachOk
  rw [List.take_add_one, List.getElem?_eq_getElem h, List.all_append]
  simp [Bool.and_assoc]
theorem fn_lawEach : PureFn Try.prog 7 gLawJoint := by
  refine pureFn_of (E := [(11, .pure gTrue), (17, .pure gFits)]) (EnvOk.cons fn_awake31 (EnvOk.cons fn_fits (EnvOk.nil _))) mixed Try.func7 (by kernel_rfl) (c := _) rfl fun args r h => ?_
  unfold gLawJoint at h
  split at h
  · rename_i pr jr
    split at h
    · rename_i p j hp hj
      cases h
      have hgl := (strsOk_leaf (decProc_ok hp)).1
      have hgc := (strsOk_leaf (decProc_ok hp)).2
      obtain ⟨fg, hgr⟩ := strsOk_rows (decProc_ok hp)
      obtain ⟨hj', hjok⟩ := decJoint_spec _ _ hj
      have hjl := (strsOk_leaf hjok).1
      have hjc := (strsOk_leaf hjok).2
      obtain ⟨fj, hjr⟩ := strsOk_rows hjok
      have hp' := decProc_spec _ _ hp
      subst hp' hj'
      have hfi := gFits_at hp j.kind j.thick (strsOk_spec hjok).1
      have hf0 := gFits_at hp j.kind j.thick (g := .v (.slice none 0 0)) (gs := []) rfl
      refine ⟨by simp [Try.ntmps7], fun hbd => ?_⟩
      rw [Try.ntmps7, Try.results7]
      (repeat (first | refine W_nil ?_ | (refine W_u fun N hN => ?_; simp [stepU, stepG, putQ, guardD, isQuiet, qv, nv, ev, stripS, strip, putS, upd_apply, st0, lenD, binD, binV, intBin, strBin, unD, indexAddrD, indexD, loadD, fieldD, fieldValD, partD, pickD, extractD, buildD, fillD, splice, mkAgg, allT, toT, D.cells, D.leaf, Value.cells, Value.oneCell', varBox, storeD, buildSliceD, pureRow, mkFn, convD, mmD, mmV, sliceD, bndD, okHead, calleeD, callD, Env.get, Env.getF, callF, frz, T.flat, appendD, rowsX, widthOk, rangeD, nextD, goInt, encProc, encJoint, hgl, hgc, hgr, hjl, hjc, hjr]; refine hN _ ?_; clear hN N) | (refine W_g rfl fun N hN => ?_; simp [stepU, stepG, putQ, guardD, isQuiet, qv, nv, ev, stripS, strip, putS, upd_apply, st0, lenD, binD, binV, intBin, strBin, unD, indexAddrD, indexD, loadD, fieldD, fieldValD, partD, pickD, extractD, buildD, fillD, splice, mkAgg, allT, toT, D.cells, D.leaf, Value.cells, Value.oneCell', varBox, storeD, buildSliceD, pureRow, mkFn, convD, mmD, mmV, sliceD, bndD, okHead, calleeD, callD, Env.get, Env.getF, callF, frz, T.flat, appendD, rowsX, widthOk, rangeD, nextD, goInt, encProc, encJoint, hgl, hgc, hgr, hjl, hjc, hjr]; refine hN _ ?_; clear hN N) | refine W_assoc ?_ | refine W_sskip ?_ | refine W_skip ?_ | refine W_sblock ?_ | refine W_block ?_ | refine W_sret ?_ | refine W_ret ?_ | refine W_sexit ?_ | refine W_exit ?_ | refine W_sreg (by first | exact .inl rfl | exact .inr (by kernel_rfl)) ?_ | refine W_reg (by first | exact .inl rfl | exact .inr (by kernel_rfl)) ?_))
      (first | (refine W_scond fun A B hA hB => ?_) | (refine W_cond fun A B hA hB => ?_)); simp [ev, stripS, strip, upd_apply]; refine condQ_bool (fun hc => hA ?_) (fun hc => hB ?_) <;> clear hA hB A B
      · (repeat (first | refine W_nil ?_ | (refine W_u fun N hN => ?_; simp [stepU, stepG, putQ, guardD, isQuiet, qv, nv, ev, stripS, strip, putS, upd_apply, st0, lenD, binD, binV, intBin, strBin, unD, indexAddrD, indexD, loadD, fieldD, fieldValD, partD, pickD, extractD, buildD, fillD, splice, mkAgg, allT, toT, D.cells, D.leaf, Value.cells, Value.oneCell', varBox, storeD, buildSliceD, pureRow, mkFn, convD, mmD, mmV, sliceD, bndD, okHead, calleeD, callD, Env.get, Env.getF, callF, frz, T.flat, appendD, rowsX, widthOk, rangeD, nextD, goInt, gTrue_at]; refine hN _ ?_; clear hN N) | (refine W_g rfl fun N hN => ?_; simp [stepU, stepG, putQ, guardD, isQuiet, qv, nv, ev, stripS, strip, putS, upd_apply, st0, lenD, binD, binV, intBin, strBin, unD, indexAddrD, indexD, loadD, fieldD, fieldValD, partD, pickD, extractD, buildD, fillD, splice, mkAgg, allT, toT, D.cells, D.leaf, Value.cells, Value.oneCell', varBox, storeD, buildSliceD, pureRow, mkFn, convD, mmD, mmV, sliceD, bndD, okHead, calleeD, callD, Env.get, Env.getF, callF, frz, T.flat, appendD, rowsX, widthOk, rangeD, nextD, goInt, gTrue_at]; refine hN _ ?_; clear hN N) | refine W_assoc ?_ | refine W_sskip ?_ | refine W_skip ?_ | refine W_sblock ?_ | refine W_block ?_ | refine W_sret ?_ | refine W_ret ?_ | refine W_sexit ?_ | refine W_exit ?_ | refine W_sreg (by first | exact .inl rfl | exact .inr (by kernel_rfl)) ?_ | refine W_reg (by first | exact .inl rfl | exact .inr (by kernel_rfl)) ?_))
        refine ⟨by simp, ?_⟩
        simp [resD, resL, loadD, frz, strip, upd_apply, T.canon, mkAgg, allT, toT]
      · have hl40 : (strs j.g).length ≤ 40 := by
          simp at hc
          omega
        clear hc
        (repeat (first | refine W_nil ?_ | (refine W_u fun N hN => ?_; simp [stepU, stepG, putQ, guardD, isQuiet, qv, nv, ev, stripS, strip, putS, upd_apply, st0, lenD, binD, binV, intBin, strBin, unD, indexAddrD, indexD, loadD, fieldD, fieldValD, partD, pickD, extractD, buildD, fillD, splice, mkAgg, allT, toT, D.cells, D.leaf, Value.cells, Value.oneCell', varBox, storeD, buildSliceD, pureRow, mkFn, convD, mmD, mmV, sliceD, bndD, okHead, calleeD, callD, Env.get, Env.getF, callF, frz, T.flat, appendD, rowsX, widthOk, rangeD, nextD, goInt, encProc, encJoint, hgl, hgc, hjl, hjc, hf0, gTrue_at]; refine hN _ ?_; clear hN N) | (refine W_g rfl fun N hN => ?_; simp [stepU, stepG, putQ, guardD, isQuiet, qv, nv, ev, stripS, strip, putS, upd_apply, st0, lenD, binD, binV, intBin, strBin, unD, indexAddrD, indexD, loadD, fieldD, fieldValD, partD, pickD, extractD, buildD, fillD, splice, mkAgg, allT, toT, D.cells, D.leaf, Value.cells, Value.oneCell', varBox, storeD, buildSliceD, pureRow, mkFn, convD, mmD, mmV, sliceD, bndD, okHead, calleeD, callD, Env.get, Env.getF, callF, frz, T.flat, appendD, rowsX, widthOk, rangeD, nextD, goInt, encProc, encJoint, hgl, hgc, hjl, hjc, hf0, gTrue_at]; refine hN _ ?_; clear hN N) | refine W_assoc ?_ | refine W_sskip ?_ | refine W_skip ?_ | refine W_sblock ?_ | refine W_block ?_ | refine W_sret ?_ | refine W_ret ?_ | refine W_sexit ?_ | refine W_exit ?_ | refine W_sreg (by first | exact .inl rfl | exact .inr (by kernel_rfl)) ?_ | refine W_reg (by first | exact .inl rfl | exact .inr (by kernel_rfl)) ?_))
        refine wpc_loop (fun m st => ∃ i : Nat, i ≤ (strs j.g).length ∧ m = (strs j.g).length - i ∧ st.s 2 = .ptr 0 0 0 ∧ st.s 3 = .ptr 1 0 0 ∧ st.σ 0 = some (.rows [(encProc p).map .p]) ∧ st.σ 1 = some (.rows [(encJoint j).map .p]) ∧ st.s 6 = .p (.v (.int .i64 i)) ∧ st.s 5 = .p (bT (eachOk p j.kind j.thick ((strs j.g).take i)))) (strs j.g).length ⟨0, by simp, by simp, by simp [upd_apply], by simp [upd_apply], by simp [upd_apply, encProc], by simp [upd_apply, encJoint], by simp [upd_apply], by simp [upd_apply, eachOk]⟩ ?_
        rintro m st ⟨i, hi, rfl, h2, h3, hb0, hb1, h6, h5⟩
        (repeat (first | refine W_nil ?_ | (refine W_u fun N hN => ?_; simp [stepU, stepG, putQ, guardD, isQuiet, qv, nv, ev, stripS, strip, putS, upd_apply, st0, lenD, binD, binV, intBin, strBin, unD, indexAddrD, indexD, loadD, fieldD, fieldValD, partD, pickD, extractD, buildD, fillD, splice, mkAgg, allT, toT, D.cells, D.leaf, Value.cells, Value.oneCell', varBox, storeD, buildSliceD, pureRow, mkFn, convD, mmD, mmV, sliceD, bndD, okHead, calleeD, callD, Env.get, Env.getF, callF, frz, T.flat, appendD, rowsX, widthOk, rangeD, nextD, goInt, h2, h3, h5, h6, hb0, hb1, encProc, encJoint, hgl, hgc, hgr, hjl, hjc, hjr]; refine hN _ ?_; clear hN N) | (refine W_g rfl fun N hN => ?_; simp [stepU, stepG, putQ, guardD, isQuiet, qv, nv, ev, stripS, strip, putS, upd_apply, st0, lenD, binD, binV, intBin, strBin, unD, indexAddrD, indexD, loadD, fieldD, fieldValD, partD, pickD, extractD, buildD, fillD, splice, mkAgg, allT, toT, D.cells, D.leaf, Value.cells, Value.oneCell', varBox, storeD, buildSliceD, pureRow, mkFn, convD, mmD, mmV, sliceD, bndD, okHead, calleeD, callD, Env.get, Env.getF, callF, frz, T.flat, appendD, rowsX, widthOk, rangeD, nextD, goInt, h2, h3, h5, h6, hb0, hb1, encProc, encJoint, hgl, hgc, hgr, hjl, hjc, hjr]; refine hN _ ?_; clear hN N) | refine W_assoc ?_ | refine W_sskip ?_ | refine W_skip ?_ | refine W_sblock ?_ | refine W_block ?_ | refine W_sret ?_ | refine W_ret ?_ | refine W_sexit ?_ | refine W_exit ?_ | refine W_sreg (by first | exact .inl rfl | exact .inr (by kernel_rfl)) ?_ | refine W_reg (by first | exact .inl rfl | exact .inr (by kernel_rfl)) ?_))
        (first | (refine W_scond fun A B hA hB => ?_) | (refine W_cond fun A B hA hB => ?_)); simp [ev, stripS, strip, upd_apply]; refine condQ_bool (fun hc => hA ?_) (fun hc => hB ?_) <;> clear hA hB A B
        · have hlt : i < (strs j.g).length := by simpa using hc
          have hlk : (strs j.g)[i]? = some (strs j.g)[i] := by simp [hlt]
          have hsl : (((strs j.g).map encS).take (i + 1)).drop i = [[sT (strs j.g)[i]]] := by
            rw [List.take_add_one, List.drop_append]
            simp [hlk, encS, List.drop_eq_nil_of_le, hlt, Nat.le_of_lt hlt]
          have hfs := fun f => gFits_at hp j.kind j.thick (g := .sl f [[sT (strs j.g)[i]]]) (gs := [(strs j.g)[i]]) rfl
          have hw : IntKind.i64.wrap ((i : Int) + 1) = i + 1 := wrap_id _ (by omega) (by omega)
          have e1 : ((i : Int) + 1).toNat = i + 1 := by omega
          have e2 : (0 : Int) ≤ (i : Int) + 1 := by omega
          have e3 : (i : Int) + 1 ≤ ((strs j.g).length : Int) := by omega
          have e4 : (i : Int) ≤ (i : Int) + 1 := by omega
          have hh : Option.all (fun r : List T => decide (r.length = 1)) (Option.map encS (strs j.g).head?) = true := by cases (strs j.g).head? <;> simp [encS]
          clear hc
          (repeat (first | refine W_nil ?_ | (refine W_u fun N hN => ?_; simp [stepU, stepG, putQ, guardD, isQuiet, qv, nv, ev, stripS, strip, putS, upd_apply, st0, lenD, binD, binV, intBin, strBin, unD, indexAddrD, indexD, loadD, fieldD, fieldValD, partD, pickD, extractD, buildD, fillD, splice, mkAgg, allT, toT, D.cells, D.leaf, Value.cells, Value.oneCell', varBox, storeD, buildSliceD, pureRow, mkFn, convD, mmD, mmV, sliceD, bndD, okHead, calleeD, callD, Env.get, Env.getF, callF, frz, T.flat, appendD, rowsX, widthOk, rangeD, nextD, goInt, h2, h3, h5, h6, hb0, hb1, encProc, encJoint, hgl, hgc, hgr, hjl, hjc, hjr, hsl, hfs, hw, e1, e2, e3, e4, hh]; refine hN _ ?_; clear hN N) | (refine W_g rfl fun N hN => ?_; simp [stepU, stepG, putQ, guardD, isQuiet, qv, nv, ev, stripS, strip, putS, upd_apply, st0, lenD, binD, binV, intBin, strBin, unD, indexAddrD, indexD, loadD, fieldD, fieldValD, partD, pickD, extractD, buildD, fillD, splice, mkAgg, allT, toT, D.cells, D.leaf, Value.cells, Value.oneCell', varBox, storeD, buildSliceD, pureRow, mkFn, convD, mmD, mmV, sliceD, bndD, okHead, calleeD, callD, Env.get, Env.getF, callF, frz, T.flat, appendD, rowsX, widthOk, rangeD, nextD, goInt, h2, h3, h5, h6, hb0, hb1, encProc, encJoint, hgl, hgc, hgr, hjl, hjc, hjr, hsl, hfs, hw, e1, e2, e3, e4, hh]; refine hN _ ?_; clear hN N) | refine W_assoc ?_ | refine W_sskip ?_ | refine W_skip ?_ | refine W_sblock ?_ | refine W_block ?_ | refine W_sret ?_ | refine W_ret ?_ | refine W_sexit ?_ | refine W_exit ?_ | refine W_sreg (by first | exact .inl rfl | exact .inr (by kernel_rfl)) ?_ | refine W_reg (by first | exact .inl rfl | exact .inr (by kernel_rfl)) ?_))
          refine ⟨(strs j.g).length - (i + 1), by omega, i + 1, by omega, rfl, by simp [upd_apply, h2], by simp [upd_apply, h3], by simp [hb0], by simp [hb1], ?_, ?_⟩
          · simp [upd_apply]
          · rw [eachOk_take _ _ _ _ _ hlt]
            simp [upd_apply]
        · have hil : i = (strs j.g).length := by simp at hc; omega
          have hlast : decide (fits p j.kind j.thick (strs j.g) = 0) = eachOk p j.kind j.thick ((strs j.g).take i) := by rw [hil, List.take_length, fits_each]
          (repeat (first | refine W_nil ?_ | (refine W_u fun N hN => ?_; simp [stepU, stepG, putQ, guardD, isQuiet, qv, nv, ev, stripS, strip, putS, upd_apply, st0, lenD, binD, binV, intBin, strBin, unD, indexAddrD, indexD, loadD, fieldD, fieldValD, partD, pickD, extractD, buildD, fillD, splice, mkAgg, allT, toT, D.cells, D.leaf, Value.cells, Value.oneCell', varBox, storeD, buildSliceD, pureRow, mkFn, convD, mmD, mmV, sliceD, bndD, okHead, calleeD, callD, Env.get, Env.getF, callF, frz, T.flat, appendD, rowsX, widthOk, rangeD, nextD, goInt, h2, h3, h5, h6, hb0, hb1, encProc, encJoint, hgl, hgc, hgr, hjl, hjc, hjr, hfi, gTrue_at]; refine hN _ ?_; clear hN N) | (refine W_g rfl fun N hN => ?_; simp [stepU, stepG, putQ, guardD, isQuiet, qv, nv, ev, stripS, strip, putS, upd_apply, st0, lenD, binD, binV, intBin, strBin, unD, indexAddrD, indexD, loadD, fieldD, fieldValD, partD, pickD, extractD, buildD, fillD, splice, mkAgg, allT, toT, D.cells, D.leaf, Value.cells, Value.oneCell', varBox, storeD, buildSliceD, pureRow, mkFn, convD, mmD, mmV, sliceD, bndD, okHead, calleeD, callD, Env.get, Env.getF, callF, frz, T.flat, appendD, rowsX, widthOk, rangeD, nextD, goInt, h2, h3, h5, h6, hb0, hb1, encProc, encJoint, hgl, hgc, hgr, hjl, hjc, hjr, hfi, gTrue_at]; refine hN _ ?_; clear hN N) | refine W_assoc ?_ | refine W_sskip ?_ | refine W_skip ?_ | refine W_sblock ?_ | refine W_block ?_ | refine W_sret ?_ | refine W_ret ?_ | refine W_sexit ?_ | refine W_exit ?_ | refine W_sreg (by first | exact .inl rfl | exact .inr (by kernel_rfl)) ?_ | refine W_reg (by first | exact .inl rfl | exact .inr (by kernel_rfl)) ?_))
          refine ⟨by simp, ?_⟩
          simp [resD, resL, loadD, frz, strip, upd_apply, T.canon, mkAgg, allT, toT, hlast]
    · cases h
  · cases h
end Go.Pv
