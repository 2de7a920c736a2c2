/-
  Procedures, alone.
-/
import Derived.Test.YtnepemjcinpohaaPfc
set_option linter.unusedSimpArgs false
namespace Go.Pv
open Go Go.Proofs

/-- A list of strings that is not too long. -/
def strsOk (t : T) : Bool := match asStrs t with
  | some l => decide (l.length * 16 ≤ 140737488355328)
  | none => false
def strs (t : T) : List ByteArray := (asStrs t).getD []
theorem strsOk_spec {t : T} (h : strsOk t = true) : asStrs t = some (strs t) ∧ (strs t).length * 16 ≤ 140737488355328 := by
  unfold strsOk at h
  split at h
  · rename_i l hl
    have e : strs t = l := by simp [strs, hl]
    rw [e]
    exact ⟨hl, by simpa using h⟩
  · cases h
theorem strsOk_rows {t : T} (h : strsOk t = true) : ∃ f, rowsT t = some (f, (strs t).map encS) := asStrs_spec (strsOk_spec h).1
theorem strsOk_leaf {t : T} (h : strsOk t = true) : t.leaf = true ∧ t.cells = [t] := asL_leaf (strsOk_spec h).1

structure Proc where
  name : ByteArray
  kind : Int
  lo : Int
  hi : Int
  g : T
  speed : Int
def encProc (p : Proc) : List T := [sT p.name, iT p.kind, iT p.lo, iT p.hi, p.g, iT p.speed]
def decProc : List T → Option Proc
  | [.v (.string nm), .v (.int .i64 k), .v (.int .i64 a), .v (.int .i64 b), g, .v (.int .i64 sp)] => if strsOk g = true then some ⟨nm, k, a, b, g, sp⟩ else none
  | _ => none
theorem decProc_spec (r : List T) (p : Proc) (h : decProc r = some p) : r = encProc p := by
  unfold decProc at h
  split at h
  · split at h
    · cases h; rfl
    · cases h
  · cases h
theorem decProc_ok {r : List T} {p : Proc} (h : decProc r = some p) : strsOk p.g = true := by
  unfold decProc at h
  split at h
  · split at h
    · rename_i hs; cases h; exact hs
    · cases h
  · cases h
abbrev asProcs := asL decProc
theorem asProcs_spec {t : T} {l : List Proc} (h : asProcs t = some l) : (∃ f, rowsT t = some (f, l.map encProc)) ∧ ∀ p ∈ l, strsOk p.g = true :=
  ⟨asL_spec decProc_spec h, fun p hp => decProc_ok (asL_dec decProc_spec h p hp)⟩

structure Seam where
  id : ByteArray
  a : ByteArray
  b : ByteArray
  kind : Int
  length : Int
  cls : Int
def encSeam (s : Seam) : List T := [sT s.id, sT s.a, sT s.b, iT s.kind, iT s.length, iT s.cls]
def decSeam : List T → Option Seam
  | [.v (.string id), .v (.string a), .v (.string b), .v (.int .i64 k), .v (.int .i64 l), .v (.int .i64 c)] => some ⟨id, a, b, k, l, c⟩
  | _ => none
theorem decSeam_spec (r : List T) (s : Seam) (h : decSeam r = some s) : r = encSeam s := by
  unfold decSeam at h
  split at h
  · cases h; rfl
  · cases h

def gBetween : List T → Option T
  | [.v (.int .i64 n), .v (.int .i64 a), .v (.int .i64 b)] => some (bT (decide (a ≤ n) && decide (n ≤ b)))
  | _ => none
theorem fn_between : PureFn Try.prog 29 gBetween := by
  refine pureFn_of (E := []) (EnvOk.nil _) mixed Try.func29 (by kernel_rfl) (c := _) rfl fun args r h => ?_
  unfold gBetween at h
  split at h
  · rename_i n a b
    cases h
    refine ⟨by simp [Try.ntmps29], fun hbd => ?_⟩
    rw [Try.ntmps29, Try.results29]
    (repeat (first | refine W_nil ?_ | (refine W_u fun N hN => ?_; simp [stepU, stepG, putQ, guardD, isQuiet, qv, nv, ev, stripS, strip, putS, upd_apply, st0, lenD, binD, binV, intBin, strBin, unD, indexAddrD, indexD, loadD, fieldD, fieldValD, partD, pickD, extractD, buildD, fillD, splice, mkAgg, allT, toT, D.cells, D.leaf, Value.cells, Value.oneCell', varBox, storeD, buildSliceD, pureRow, mkFn, convD, mmD, mmV, sliceD, bndD, okHead, calleeD, callD, Env.get, Env.getF, callF, frz, T.flat, appendD, rowsX, widthOk, rangeD, nextD, goInt]; refine hN _ ?_; clear hN N) | (refine W_g rfl fun N hN => ?_; simp [stepU, stepG, putQ, guardD, isQuiet, qv, nv, ev, stripS, strip, putS, upd_apply, st0, lenD, binD, binV, intBin, strBin, unD, indexAddrD, indexD, loadD, fieldD, fieldValD, partD, pickD, extractD, buildD, fillD, splice, mkAgg, allT, toT, D.cells, D.leaf, Value.cells, Value.oneCell', varBox, storeD, buildSliceD, pureRow, mkFn, convD, mmD, mmV, sliceD, bndD, okHead, calleeD, callD, Env.get, Env.getF, callF, frz, T.flat, appendD, rowsX, widthOk, rangeD, nextD, goInt]; refine hN _ ?_; clear hN N) | refine W_assoc ?_ | refine W_sskip ?_ | refine W_skip ?_ | refine W_sblock ?_ | refine W_block ?_ | refine W_sret ?_ | refine W_ret ?_ | refine W_sexit ?_ | refine W_exit ?_ | refine W_sreg (by first | exact .inl rfl | exact .inr (by kernel_rfl)) ?_ | refine W_reg (by first | exact .inl rfl | exact .inr (by kernel_rfl)) ?_))
    refine ⟨by simp, ?_⟩
    simp [resD, resL, loadD, frz, strip, upd_apply, T.canon, mkAgg, allT, toT]
  · cases h

def hours (p : Proc) (s : Seam) : Int :=
  if 1 ≤ p.speed ∧ p.speed ≤ 100000 ∧ 1 ≤ s.length ∧ s.length ≤ 32768 then (s.length + p.speed - 1) / p.speed else 0
def gHours : List T → Option T
  | [.agg p, .agg s] => match decProc p, decSeam s with
    | some p, some s => some (iT (hours p s))
    | _, _ => none
  | _ => none
theorem fn_hours : PureFn Try.prog 22 gHours := by
  refine pureFn_of (E := [(29, .pure gBetween)]) (EnvOk.cons fn_between (EnvOk.nil _)) mixed Try.func22 (by kernel_rfl) (c := _) rfl fun args r h => ?_
  unfold gHours at h
  split at h
  · rename_i pr sr
    split at h
    · rename_i p s hp hs
      cases h
      have hgl := (strsOk_leaf (decProc_ok hp)).1
      have hgc := (strsOk_leaf (decProc_ok hp)).2
      have hp' := decProc_spec _ _ hp
      have hs' := decSeam_spec _ _ hs
      subst hp' hs'
      refine ⟨by simp [Try.ntmps22], fun hbd => ?_⟩
      rw [Try.ntmps22, Try.results22]
      (repeat (first | refine W_nil ?_ | (refine W_u fun N hN => ?_; simp [stepU, stepG, putQ, guardD, isQuiet, qv, nv, ev, stripS, strip, putS, upd_apply, st0, lenD, binD, binV, intBin, strBin, unD, indexAddrD, indexD, loadD, fieldD, fieldValD, partD, pickD, extractD, buildD, fillD, splice, mkAgg, allT, toT, D.cells, D.leaf, Value.cells, Value.oneCell', varBox, storeD, buildSliceD, pureRow, mkFn, convD, mmD, mmV, sliceD, bndD, okHead, calleeD, callD, Env.get, Env.getF, callF, frz, T.flat, appendD, rowsX, widthOk, rangeD, nextD, goInt, gBetween, hgl, hgc, encProc, encSeam]; refine hN _ ?_; clear hN N) | (refine W_g rfl fun N hN => ?_; simp [stepU, stepG, putQ, guardD, isQuiet, qv, nv, ev, stripS, strip, putS, upd_apply, st0, lenD, binD, binV, intBin, strBin, unD, indexAddrD, indexD, loadD, fieldD, fieldValD, partD, pickD, extractD, buildD, fillD, splice, mkAgg, allT, toT, D.cells, D.leaf, Value.cells, Value.oneCell', varBox, storeD, buildSliceD, pureRow, mkFn, convD, mmD, mmV, sliceD, bndD, okHead, calleeD, callD, Env.get, Env.getF, callF, frz, T.flat, appendD, rowsX, widthOk, rangeD, nextD, goInt, gBetween, hgl, hgc, encProc, encSeam]; refine hN _ ?_; clear hN N) | refine W_assoc ?_ | refine W_sskip ?_ | refine W_skip ?_ | refine W_sblock ?_ | refine W_block ?_ | refine W_sret ?_ | refine W_ret ?_ | refine W_sexit ?_ | refine W_exit ?_ | refine W_sreg (by first | exact .inl rfl | exact .inr (by kernel_rfl)) ?_ | refine W_reg (by first | exact .inl rfl | exact .inr (by kernel_rfl)) ?_))
      (first | (refine W_scond fun A B hA hB => ?_) | (refine W_cond fun A B hA hB => ?_)); simp [ev, stripS, strip, upd_apply]; refine condQ_bool (fun hc => hA ?_) (fun hc => hB ?_) <;> clear hA hB A B
      · (repeat (first | refine W_nil ?_ | (refine W_u fun N hN => ?_; simp [stepU, stepG, putQ, guardD, isQuiet, qv, nv, ev, stripS, strip, putS, upd_apply, st0, lenD, binD, binV, intBin, strBin, unD, indexAddrD, indexD, loadD, fieldD, fieldValD, partD, pickD, extractD, buildD, fillD, splice, mkAgg, allT, toT, D.cells, D.leaf, Value.cells, Value.oneCell', varBox, storeD, buildSliceD, pureRow, mkFn, convD, mmD, mmV, sliceD, bndD, okHead, calleeD, callD, Env.get, Env.getF, callF, frz, T.flat, appendD, rowsX, widthOk, rangeD, nextD, goInt]; refine hN _ ?_; clear hN N) | (refine W_g rfl fun N hN => ?_; simp [stepU, stepG, putQ, guardD, isQuiet, qv, nv, ev, stripS, strip, putS, upd_apply, st0, lenD, binD, binV, intBin, strBin, unD, indexAddrD, indexD, loadD, fieldD, fieldValD, partD, pickD, extractD, buildD, fillD, splice, mkAgg, allT, toT, D.cells, D.leaf, Value.cells, Value.oneCell', varBox, storeD, buildSliceD, pureRow, mkFn, convD, mmD, mmV, sliceD, bndD, okHead, calleeD, callD, Env.get, Env.getF, callF, frz, T.flat, appendD, rowsX, widthOk, rangeD, nextD, goInt]; refine hN _ ?_; clear hN N) | refine W_assoc ?_ | refine W_sskip ?_ | refine W_skip ?_ | refine W_sblock ?_ | refine W_block ?_ | refine W_sret ?_ | refine W_ret ?_ | refine W_sexit ?_ | refine W_exit ?_ | refine W_sreg (by first | exact .inl rfl | exact .inr (by kernel_rfl)) ?_ | refine W_reg (by first | exact .inl rfl | exact .inr (by kernel_rfl)) ?_))
        refine ⟨by simp, ?_⟩
        have : hours p s = 0 := by unfold hours; rw [if_neg]; simp at hc; omega
        simp [resD, resL, loadD, frz, strip, upd_apply, T.canon, mkAgg, allT, toT, this]
      · simp at hc
        have h0 : ¬ p.speed = 0 := by omega
        (repeat (first | refine W_nil ?_ | (refine W_u fun N hN => ?_; simp [stepU, stepG, putQ, guardD, isQuiet, qv, nv, ev, stripS, strip, putS, upd_apply, st0, lenD, binD, binV, intBin, strBin, unD, indexAddrD, indexD, loadD, fieldD, fieldValD, partD, pickD, extractD, buildD, fillD, splice, mkAgg, allT, toT, D.cells, D.leaf, Value.cells, Value.oneCell', varBox, storeD, buildSliceD, pureRow, mkFn, convD, mmD, mmV, sliceD, bndD, okHead, calleeD, callD, Env.get, Env.getF, callF, frz, T.flat, appendD, rowsX, widthOk, rangeD, nextD, goInt, h0]; refine hN _ ?_; clear hN N) | (refine W_g rfl fun N hN => ?_; simp [stepU, stepG, putQ, guardD, isQuiet, qv, nv, ev, stripS, strip, putS, upd_apply, st0, lenD, binD, binV, intBin, strBin, unD, indexAddrD, indexD, loadD, fieldD, fieldValD, partD, pickD, extractD, buildD, fillD, splice, mkAgg, allT, toT, D.cells, D.leaf, Value.cells, Value.oneCell', varBox, storeD, buildSliceD, pureRow, mkFn, convD, mmD, mmV, sliceD, bndD, okHead, calleeD, callD, Env.get, Env.getF, callF, frz, T.flat, appendD, rowsX, widthOk, rangeD, nextD, goInt, h0]; refine hN _ ?_; clear hN N) | refine W_assoc ?_ | refine W_sskip ?_ | refine W_skip ?_ | refine W_sblock ?_ | refine W_block ?_ | refine W_sret ?_ | refine W_ret ?_ | refine W_sexit ?_ | refine W_exit ?_ | refine W_sreg (by first | exact .inl rfl | exact .inr (by kernel_rfl)) ?_ | refine W_reg (by first | exact .inl rfl | exact .inr (by kernel_rfl)) ?_))
        refine ⟨by simp, ?_⟩
        have : hours p s = (s.length + p.speed - 1) / p.speed := by unfold hours; rw [if_pos]; omega
        have e1 : IntKind.i64.wrap (s.length + p.speed) = s.length + p.speed := wrap_id _ (by omega) (by omega)
        have e2 : IntKind.i64.wrap (s.length + p.speed - 1) = s.length + p.speed - 1 := wrap_id _ (by omega) (by omega)
        have e3 : (s.length + p.speed - 1).tdiv p.speed = (s.length + p.speed - 1) / p.speed := Int.tdiv_eq_ediv_of_nonneg (by omega)
        have e4 : 0 ≤ (s.length + p.speed - 1) / p.speed := Int.ediv_nonneg (by omega) (by omega)
        have e5 : (s.length + p.speed - 1) / p.speed ≤ s.length + p.speed - 1 := Int.ediv_le_self _ (by omega)
        have e6 : IntKind.i64.wrap ((s.length + p.speed - 1) / p.speed) = (s.length + p.speed - 1) / p.speed := wrap_id _ (by omega) (by omega)
        simp [resD, resL, loadD, frz, strip, upd_apply, T.canon, mkAgg, allT, toT, this, e1, e2, e3, e6]
    · cases h
  · cases h
theorem fn_hours31 : PureFn Try.prog 23 gHours := by
  refine pureFn_of (E := []) (EnvOk.nil _) mixed Try.func23 (by kernel_rfl) (c := _) rfl fun args r h => ?_
  unfold gHours at h
  split at h
  · rename_i pr sr
    split at h
    · rename_i p s hp hs
      cases h
      have hgl := (strsOk_leaf (decProc_ok hp)).1
      have hgc := (strsOk_leaf (decProc_ok hp)).2
      have hp' := decProc_spec _ _ hp
      have hs' := decSeam_spec _ _ hs
      subst hp' hs'
      refine ⟨by simp [Try.ntmps23], fun hbd => ?_⟩
      rw [Try.ntmps23, Try.results23]
      (repeat (first | refine W_nil ?_ | (refine W_u fun N hN => ?_; simp [stepU, stepG, putQ, guardD, isQuiet, qv, nv, ev, stripS, strip, putS, upd_apply, st0, lenD, binD, binV, intBin, strBin, unD, indexAddrD, indexD, loadD, fieldD, fieldValD, partD, pickD, extractD, buildD, fillD, splice, mkAgg, allT, toT, D.cells, D.leaf, Value.cells, Value.oneCell', varBox, storeD, buildSliceD, pureRow, mkFn, convD, mmD, mmV, sliceD, bndD, okHead, calleeD, callD, Env.get, Env.getF, callF, frz, T.flat, appendD, rowsX, widthOk, rangeD, nextD, goInt, gBetween, hgl, hgc, encProc, encSeam]; refine hN _ ?_; clear hN N) | (refine W_g rfl fun N hN => ?_; simp [stepU, stepG, putQ, guardD, isQuiet, qv, nv, ev, stripS, strip, putS, upd_apply, st0, lenD, binD, binV, intBin, strBin, unD, indexAddrD, indexD, loadD, fieldD, fieldValD, partD, pickD, extractD, buildD, fillD, splice, mkAgg, allT, toT, D.cells, D.leaf, Value.cells, Value.oneCell', varBox, storeD, buildSliceD, pureRow, mkFn, convD, mmD, mmV, sliceD, bndD, okHead, calleeD, callD, Env.get, Env.getF, callF, frz, T.flat, appendD, rowsX, widthOk, rangeD, nextD, goInt, gBetween, hgl, hgc, encProc, encSeam]; refine hN _ ?_; clear hN N) | refine W_assoc ?_ | refine W_sskip ?_ | refine W_skip ?_ | refine W_sblock ?_ | refine W_block ?_ | refine W_sret ?_ | refine W_ret ?_ | refine W_sexit ?_ | refine W_exit ?_ | refine W_sreg (by first | exact .inl rfl | exact .inr (by kernel_rfl)) ?_ | refine W_reg (by first | exact .inl rfl | exact .inr (by kernel_rfl)) ?_))
      (first | (refine W_scond fun A B hA hB => ?_) | (refine W_cond fun A B hA hB => ?_)); simp [ev, stripS, strip, upd_apply]; refine condQ_bool (fun hc => hA ?_) (fun hc => hB ?_) <;> clear hA hB A B
      · (repeat (first | refine W_nil ?_ | (refine W_u fun N hN => ?_; simp [stepU, stepG, putQ, guardD, isQuiet, qv, nv, ev, stripS, strip, putS, upd_apply, st0, lenD, binD, binV, intBin, strBin, unD, indexAddrD, indexD, loadD, fieldD, fieldValD, partD, pickD, extractD, buildD, fillD, splice, mkAgg, allT, toT, D.cells, D.leaf, Value.cells, Value.oneCell', varBox, storeD, buildSliceD, pureRow, mkFn, convD, mmD, mmV, sliceD, bndD, okHead, calleeD, callD, Env.get, Env.getF, callF, frz, T.flat, appendD, rowsX, widthOk, rangeD, nextD, goInt]; refine hN _ ?_; clear hN N) | (refine W_g rfl fun N hN => ?_; simp [stepU, stepG, putQ, guardD, isQuiet, qv, nv, ev, stripS, strip, putS, upd_apply, st0, lenD, binD, binV, intBin, strBin, unD, indexAddrD, indexD, loadD, fieldD, fieldValD, partD, pickD, extractD, buildD, fillD, splice, mkAgg, allT, toT, D.cells, D.leaf, Value.cells, Value.oneCell', varBox, storeD, buildSliceD, pureRow, mkFn, convD, mmD, mmV, sliceD, bndD, okHead, calleeD, callD, Env.get, Env.getF, callF, frz, T.flat, appendD, rowsX, widthOk, rangeD, nextD, goInt]; refine hN _ ?_; clear hN N) | refine W_assoc ?_ | refine W_sskip ?_ | refine W_skip ?_ | refine W_sblock ?_ | refine W_block ?_ | refine W_sret ?_ | refine W_ret ?_ | refine W_sexit ?_ | refine W_exit ?_ | refine W_sreg (by first | exact .inl rfl | exact .inr (by kernel_rfl)) ?_ | refine W_reg (by first | exact .inl rfl | exact .inr (by kernel_rfl)) ?_))
        refine ⟨by simp, ?_⟩
        have : hours p s = 0 := by unfold hours; rw [if_neg]; simp at hc; omega
        simp [resD, resL, loadD, frz, strip, upd_apply, T.canon, mkAgg, allT, toT, this]
      · simp at hc
        have h0 : ¬ p.speed = 0 := by omega
        (repeat (first | refine W_nil ?_ | (refine W_u fun N hN => ?_; simp [stepU, stepG, putQ, guardD, isQuiet, qv, nv, ev, stripS, strip, putS, upd_apply, st0, lenD, binD, binV, intBin, strBin, unD, indexAddrD, indexD, loadD, fieldD, fieldValD, partD, pickD, extractD, buildD, fillD, splice, mkAgg, allT, toT, D.cells, D.leaf, Value.cells, Value.oneCell', varBox, storeD, buildSliceD, pureRow, mkFn, convD, mmD, mmV, sliceD, bndD, okHead, calleeD, callD, Env.get, Env.getF, callF, frz, T.flat, appendD, rowsX, widthOk, rangeD, nextD, goInt, h0]; refine hN _ ?_; clear hN N) | (refine W_g rfl fun N hN => ?_; simp [stepU, stepG, putQ, guardD, isQuiet, qv, nv, ev, stripS, strip, putS, upd_apply, st0, lenD, binD, binV, intBin, strBin, unD, indexAddrD, indexD, loadD, fieldD, fieldValD, partD, pickD, extractD, buildD, fillD, splice, mkAgg, allT, toT, D.cells, D.leaf, Value.cells, Value.oneCell', varBox, storeD, buildSliceD, pureRow, mkFn, convD, mmD, mmV, sliceD, bndD, okHead, calleeD, callD, Env.get, Env.getF, callF, frz, T.flat, appendD, rowsX, widthOk, rangeD, nextD, goInt, h0]; refine hN _ ?_; clear hN N) | refine W_assoc ?_ | refine W_sskip ?_ | refine W_skip ?_ | refine W_sblock ?_ | refine W_block ?_ | refine W_sret ?_ | refine W_ret ?_ | refine W_sexit ?_ | refine W_exit ?_ | refine W_sreg (by first | exact .inl rfl | exact .inr (by kernel_rfl)) ?_ | refine W_reg (by first | exact .inl rfl | exact .inr (by kernel_rfl)) ?_))
        refine ⟨by simp, ?_⟩
        have : hours p s = (s.length + p.speed - 1) / p.speed := by unfold hours; rw [if_pos]; omega
        have e1 : IntKind.i64.wrap (s.length + p.speed) = s.length + p.speed := wrap_id _ (by omega) (by omega)
        have e2 : IntKind.i64.wrap (s.length + p.speed - 1) = s.length + p.speed - 1 := wrap_id _ (by omega) (by omega)
        have e3 : (s.length + p.speed - 1).tdiv p.speed = (s.length + p.speed - 1) / p.speed := Int.tdiv_eq_ediv_of_nonneg (by omega)
        have e4 : 0 ≤ (s.length + p.speed - 1) / p.speed := Int.ediv_nonneg (by omega) (by omega)
        have e5 : (s.length + p.speed - 1) / p.speed ≤ s.length + p.speed - 1 := Int.ediv_le_self _ (by omega)
        have e6 : IntKind.i64.wrap ((s.length + p.speed - 1) / p.speed) = (s.length + p.speed - 1) / p.speed := wrap_id _ (by omega) (by omega)
        simp [resD, resL, loadD, frz, strip, upd_apply, T.canon, mkAgg, allT, toT, this, e1, e2, e3, e6]
    · cases h
  · cases h

/-! ### Whether a procedure is right -/
def right (p : Proc) : Int :=
  if isName p.name = false then 6
  else if p.kind ≠ 1 ∧ p.kind ≠ 2 then 10
  else if p.lo < 1 ∨ p.lo > p.hi ∨ p.hi > 120 ∨ p.speed < 1 ∨ p.speed > 100000 then 9
  else if (strs p.g).length = 0 then 3
  else if (strs p.g).length > 16 then 4
  else if ((strs p.g).any fun s => !isName s) = true then 6
  else 0
def gRight : List T → Option T
  | [.agg p] => (decProc p).map fun p => iT (right p)
  | _ => none
theorem fn_right : PureFn Try.prog 32 gRight := by
  refine pureFn_of (E := [(42, .pure gIsName)]) (EnvOk.cons fn_isName04 (EnvOk.nil _)) mixed Try.func32 (by kernel_rfl) (c := _) rfl fun args r h => ?_
  unfold gRight at h
  split at h
  · rename_i pr
    simp only [Option.map_eq_some_iff] at h
    obtain ⟨p, hp, rfl⟩ := h
    have hgl := (strsOk_leaf (decProc_ok hp)).1
    have hgc := (strsOk_leaf (decProc_ok hp)).2
    obtain ⟨f, hr⟩ := strsOk_rows (decProc_ok hp)
    have hp' := decProc_spec _ _ hp
    subst hp'
    refine ⟨by simp [Try.ntmps32], fun hbd => ?_⟩
    rw [Try.ntmps32, Try.results32]
    (repeat (first | refine W_nil ?_ | (refine W_u fun N hN => ?_; simp [stepU, stepG, putQ, guardD, isQuiet, qv, nv, ev, stripS, strip, putS, upd_apply, st0, lenD, binD, binV, intBin, strBin, unD, indexAddrD, indexD, loadD, fieldD, fieldValD, partD, pickD, extractD, buildD, fillD, splice, mkAgg, allT, toT, D.cells, D.leaf, Value.cells, Value.oneCell', varBox, storeD, buildSliceD, pureRow, mkFn, convD, mmD, mmV, sliceD, bndD, okHead, calleeD, callD, Env.get, Env.getF, callF, frz, T.flat, appendD, rowsX, widthOk, rangeD, nextD, goInt, gIsName, hgl, hgc, encProc]; refine hN _ ?_; clear hN N) | (refine W_g rfl fun N hN => ?_; simp [stepU, stepG, putQ, guardD, isQuiet, qv, nv, ev, stripS, strip, putS, upd_apply, st0, lenD, binD, binV, intBin, strBin, unD, indexAddrD, indexD, loadD, fieldD, fieldValD, partD, pickD, extractD, buildD, fillD, splice, mkAgg, allT, toT, D.cells, D.leaf, Value.cells, Value.oneCell', varBox, storeD, buildSliceD, pureRow, mkFn, convD, mmD, mmV, sliceD, bndD, okHead, calleeD, callD, Env.get, Env.getF, callF, frz, T.flat, appendD, rowsX, widthOk, rangeD, nextD, goInt, gIsName, hgl, hgc, encProc]; refine hN _ ?_; clear hN N) | refine W_assoc ?_ | refine W_sskip ?_ | refine W_skip ?_ | refine W_sblock ?_ | refine W_block ?_ | refine W_sret ?_ | refine W_ret ?_ | refine W_sexit ?_ | refine W_exit ?_ | refine W_sreg (by first | exact .inl rfl | exact .inr (by kernel_rfl)) ?_ | refine W_reg (by first | exact .inl rfl | exact .inr (by kernel_rfl)) ?_))
    (first | (refine W_scond fun A B hA hB => ?_) | (refine W_cond fun A B hA hB => ?_)); simp [ev, stripS, strip, upd_apply]; refine condQ_bool (fun hc => hA ?_) (fun hc => hB ?_) <;> clear hA hB A B
    · simp at hc
      (repeat (first | refine W_nil ?_ | (refine W_u fun N hN => ?_; simp [stepU, stepG, putQ, guardD, isQuiet, qv, nv, ev, stripS, strip, putS, upd_apply, st0, lenD, binD, binV, intBin, strBin, unD, indexAddrD, indexD, loadD, fieldD, fieldValD, partD, pickD, extractD, buildD, fillD, splice, mkAgg, allT, toT, D.cells, D.leaf, Value.cells, Value.oneCell', varBox, storeD, buildSliceD, pureRow, mkFn, convD, mmD, mmV, sliceD, bndD, okHead, calleeD, callD, Env.get, Env.getF, callF, frz, T.flat, appendD, rowsX, widthOk, rangeD, nextD, goInt]; refine hN _ ?_; clear hN N) | (refine W_g rfl fun N hN => ?_; simp [stepU, stepG, putQ, guardD, isQuiet, qv, nv, ev, stripS, strip, putS, upd_apply, st0, lenD, binD, binV, intBin, strBin, unD, indexAddrD, indexD, loadD, fieldD, fieldValD, partD, pickD, extractD, buildD, fillD, splice, mkAgg, allT, toT, D.cells, D.leaf, Value.cells, Value.oneCell', varBox, storeD, buildSliceD, pureRow, mkFn, convD, mmD, mmV, sliceD, bndD, okHead, calleeD, callD, Env.get, Env.getF, callF, frz, T.flat, appendD, rowsX, widthOk, rangeD, nextD, goInt]; refine hN _ ?_; clear hN N) | refine W_assoc ?_ | refine W_sskip ?_ | refine W_skip ?_ | refine W_sblock ?_ | refine W_block ?_ | refine W_sret ?_ | refine W_ret ?_ | refine W_sexit ?_ | refine W_exit ?_ | refine W_sreg (by first | exact .inl rfl | exact .inr (by kernel_rfl)) ?_ | refine W_reg (by first | exact .inl rfl | exact .inr (by kernel_rfl)) ?_))
      refine ⟨by simp, ?_⟩
      simp [resD, resL, loadD, frz, strip, upd_apply, T.canon, mkAgg, allT, toT, right, hc]
    simp at hc
    have c1 := hc
    clear hc
    (repeat (first | refine W_nil ?_ | (refine W_u fun N hN => ?_; simp [stepU, stepG, putQ, guardD, isQuiet, qv, nv, ev, stripS, strip, putS, upd_apply, st0, lenD, binD, binV, intBin, strBin, unD, indexAddrD, indexD, loadD, fieldD, fieldValD, partD, pickD, extractD, buildD, fillD, splice, mkAgg, allT, toT, D.cells, D.leaf, Value.cells, Value.oneCell', varBox, storeD, buildSliceD, pureRow, mkFn, convD, mmD, mmV, sliceD, bndD, okHead, calleeD, callD, Env.get, Env.getF, callF, frz, T.flat, appendD, rowsX, widthOk, rangeD, nextD, goInt, hgl, hgc]; refine hN _ ?_; clear hN N) | (refine W_g rfl fun N hN => ?_; simp [stepU, stepG, putQ, guardD, isQuiet, qv, nv, ev, stripS, strip, putS, upd_apply, st0, lenD, binD, binV, intBin, strBin, unD, indexAddrD, indexD, loadD, fieldD, fieldValD, partD, pickD, extractD, buildD, fillD, splice, mkAgg, allT, toT, D.cells, D.leaf, Value.cells, Value.oneCell', varBox, storeD, buildSliceD, pureRow, mkFn, convD, mmD, mmV, sliceD, bndD, okHead, calleeD, callD, Env.get, Env.getF, callF, frz, T.flat, appendD, rowsX, widthOk, rangeD, nextD, goInt, hgl, hgc]; refine hN _ ?_; clear hN N) | refine W_assoc ?_ | refine W_sskip ?_ | refine W_skip ?_ | refine W_sblock ?_ | refine W_block ?_ | refine W_sret ?_ | refine W_ret ?_ | refine W_sexit ?_ | refine W_exit ?_ | refine W_sreg (by first | exact .inl rfl | exact .inr (by kernel_rfl)) ?_ | refine W_reg (by first | exact .inl rfl | exact .inr (by kernel_rfl)) ?_))
    (first | (refine W_scond fun A B hA hB => ?_) | (refine W_cond fun A B hA hB => ?_)); simp [ev, stripS, strip, upd_apply]; refine condQ_bool (fun hc => hA ?_) (fun hc => hB ?_) <;> clear hA hB A B
    · simp at hc
      (repeat (first | refine W_nil ?_ | (refine W_u fun N hN => ?_; simp [stepU, stepG, putQ, guardD, isQuiet, qv, nv, ev, stripS, strip, putS, upd_apply, st0, lenD, binD, binV, intBin, strBin, unD, indexAddrD, indexD, loadD, fieldD, fieldValD, partD, pickD, extractD, buildD, fillD, splice, mkAgg, allT, toT, D.cells, D.leaf, Value.cells, Value.oneCell', varBox, storeD, buildSliceD, pureRow, mkFn, convD, mmD, mmV, sliceD, bndD, okHead, calleeD, callD, Env.get, Env.getF, callF, frz, T.flat, appendD, rowsX, widthOk, rangeD, nextD, goInt]; refine hN _ ?_; clear hN N) | (refine W_g rfl fun N hN => ?_; simp [stepU, stepG, putQ, guardD, isQuiet, qv, nv, ev, stripS, strip, putS, upd_apply, st0, lenD, binD, binV, intBin, strBin, unD, indexAddrD, indexD, loadD, fieldD, fieldValD, partD, pickD, extractD, buildD, fillD, splice, mkAgg, allT, toT, D.cells, D.leaf, Value.cells, Value.oneCell', varBox, storeD, buildSliceD, pureRow, mkFn, convD, mmD, mmV, sliceD, bndD, okHead, calleeD, callD, Env.get, Env.getF, callF, frz, T.flat, appendD, rowsX, widthOk, rangeD, nextD, goInt]; refine hN _ ?_; clear hN N) | refine W_assoc ?_ | refine W_sskip ?_ | refine W_skip ?_ | refine W_sblock ?_ | refine W_block ?_ | refine W_sret ?_ | refine W_ret ?_ | refine W_sexit ?_ | refine W_exit ?_ | refine W_sreg (by first | exact .inl rfl | exact .inr (by kernel_rfl)) ?_ | refine W_reg (by first | exact .inl rfl | exact .inr (by kernel_rfl)) ?_))
      refine ⟨by simp, ?_⟩
      simp [resD, resL, loadD, frz, strip, upd_apply, T.canon, mkAgg, allT, toT, right, c1, hc]
    have c2 : ¬ (p.kind ≠ 1 ∧ p.kind ≠ 2) := by simp at hc; omega
    clear hc
    (repeat (first | refine W_nil ?_ | (refine W_u fun N hN => ?_; simp [stepU, stepG, putQ, guardD, isQuiet, qv, nv, ev, stripS, strip, putS, upd_apply, st0, lenD, binD, binV, intBin, strBin, unD, indexAddrD, indexD, loadD, fieldD, fieldValD, partD, pickD, extractD, buildD, fillD, splice, mkAgg, allT, toT, D.cells, D.leaf, Value.cells, Value.oneCell', varBox, storeD, buildSliceD, pureRow, mkFn, convD, mmD, mmV, sliceD, bndD, okHead, calleeD, callD, Env.get, Env.getF, callF, frz, T.flat, appendD, rowsX, widthOk, rangeD, nextD, goInt, hgl, hgc]; refine hN _ ?_; clear hN N) | (refine W_g rfl fun N hN => ?_; simp [stepU, stepG, putQ, guardD, isQuiet, qv, nv, ev, stripS, strip, putS, upd_apply, st0, lenD, binD, binV, intBin, strBin, unD, indexAddrD, indexD, loadD, fieldD, fieldValD, partD, pickD, extractD, buildD, fillD, splice, mkAgg, allT, toT, D.cells, D.leaf, Value.cells, Value.oneCell', varBox, storeD, buildSliceD, pureRow, mkFn, convD, mmD, mmV, sliceD, bndD, okHead, calleeD, callD, Env.get, Env.getF, callF, frz, T.flat, appendD, rowsX, widthOk, rangeD, nextD, goInt, hgl, hgc]; refine hN _ ?_; clear hN N) | refine W_assoc ?_ | refine W_sskip ?_ | refine W_skip ?_ | refine W_sblock ?_ | refine W_block ?_ | refine W_sret ?_ | refine W_ret ?_ | refine W_sexit ?_ | refine W_exit ?_ | refine W_sreg (by first | exact .inl rfl | exact .inr (by kernel_rfl)) ?_ | refine W_reg (by first | exact .inl rfl | exact .inr (by kernel_rfl)) ?_))
    (first | (refine W_scond fun A B hA hB => ?_) | (refine W_cond fun A B hA hB => ?_)); simp [ev, stripS, strip, upd_apply]; refine condQ_bool (fun hc => hA ?_) (fun hc => hB ?_) <;> clear hA hB A B
    · have c3 : p.lo < 1 ∨ p.lo > p.hi ∨ p.hi > 120 ∨ p.speed < 1 ∨ p.speed > 100000 := by simp at hc; omega
      (repeat (first | refine W_nil ?_ | (refine W_u fun N hN => ?_; simp [stepU, stepG, putQ, guardD, isQuiet, qv, nv, ev, stripS, strip, putS, upd_apply, st0, lenD, binD, binV, intBin, strBin, unD, indexAddrD, indexD, loadD, fieldD, fieldValD, partD, pickD, extractD, buildD, fillD, splice, mkAgg, allT, toT, D.cells, D.leaf, Value.cells, Value.oneCell', varBox, storeD, buildSliceD, pureRow, mkFn, convD, mmD, mmV, sliceD, bndD, okHead, calleeD, callD, Env.get, Env.getF, callF, frz, T.flat, appendD, rowsX, widthOk, rangeD, nextD, goInt]; refine hN _ ?_; clear hN N) | (refine W_g rfl fun N hN => ?_; simp [stepU, stepG, putQ, guardD, isQuiet, qv, nv, ev, stripS, strip, putS, upd_apply, st0, lenD, binD, binV, intBin, strBin, unD, indexAddrD, indexD, loadD, fieldD, fieldValD, partD, pickD, extractD, buildD, fillD, splice, mkAgg, allT, toT, D.cells, D.leaf, Value.cells, Value.oneCell', varBox, storeD, buildSliceD, pureRow, mkFn, convD, mmD, mmV, sliceD, bndD, okHead, calleeD, callD, Env.get, Env.getF, callF, frz, T.flat, appendD, rowsX, widthOk, rangeD, nextD, goInt]; refine hN _ ?_; clear hN N) | refine W_assoc ?_ | refine W_sskip ?_ | refine W_skip ?_ | refine W_sblock ?_ | refine W_block ?_ | refine W_sret ?_ | refine W_ret ?_ | refine W_sexit ?_ | refine W_exit ?_ | refine W_sreg (by first | exact .inl rfl | exact .inr (by kernel_rfl)) ?_ | refine W_reg (by first | exact .inl rfl | exact .inr (by kernel_rfl)) ?_))
      refine ⟨by simp, ?_⟩
      have : right p = 9 := by unfold right; rw [if_neg (by simp [c1]), if_neg c2, if_pos c3]
      simp [resD, resL, loadD, frz, strip, upd_apply, T.canon, mkAgg, allT, toT, this]
    have c3 : ¬ (p.lo < 1 ∨ p.lo > p.hi ∨ p.hi > 120 ∨ p.speed < 1 ∨ p.speed > 100000) := by simp at hc; omega
    clear hc
    (repeat (first | refine W_nil ?_ | (refine W_u fun N hN => ?_; simp [stepU, stepG, putQ, guardD, isQuiet, qv, nv, ev, stripS, strip, putS, upd_apply, st0, lenD, binD, binV, intBin, strBin, unD, indexAddrD, indexD, loadD, fieldD, fieldValD, partD, pickD, extractD, buildD, fillD, splice, mkAgg, allT, toT, D.cells, D.leaf, Value.cells, Value.oneCell', varBox, storeD, buildSliceD, pureRow, mkFn, convD, mmD, mmV, sliceD, bndD, okHead, calleeD, callD, Env.get, Env.getF, callF, frz, T.flat, appendD, rowsX, widthOk, rangeD, nextD, goInt, hgl, hgc, hr]; refine hN _ ?_; clear hN N) | (refine W_g rfl fun N hN => ?_; simp [stepU, stepG, putQ, guardD, isQuiet, qv, nv, ev, stripS, strip, putS, upd_apply, st0, lenD, binD, binV, intBin, strBin, unD, indexAddrD, indexD, loadD, fieldD, fieldValD, partD, pickD, extractD, buildD, fillD, splice, mkAgg, allT, toT, D.cells, D.leaf, Value.cells, Value.oneCell', varBox, storeD, buildSliceD, pureRow, mkFn, convD, mmD, mmV, sliceD, bndD, okHead, calleeD, callD, Env.get, Env.getF, callF, frz, T.flat, appendD, rowsX, widthOk, rangeD, nextD, goInt, hgl, hgc, hr]; refine hN _ ?_; clear hN N) | refine W_assoc ?_ | refine W_sskip ?_ | refine W_skip ?_ | refine W_sblock ?_ | refine W_block ?_ | refine W_sret ?_ | refine W_ret ?_ | refine W_sexit ?_ | refine W_exit ?_ | refine W_sreg (by first | exact .inl rfl | exact .inr (by kernel_rfl)) ?_ | refine W_reg (by first | exact .inl rfl | exact .inr (by kernel_rfl)) ?_))
    (first | (refine W_scond fun A B hA hB => ?_) | (refine W_cond fun A B hA hB => ?_)); simp [ev, stripS, strip, upd_apply]; refine condQ_bool (fun hc => hA ?_) (fun hc => hB ?_) <;> clear hA hB A B
    · (repeat (first | refine W_nil ?_ | (refine W_u fun N hN => ?_; simp [stepU, stepG, putQ, guardD, isQuiet, qv, nv, ev, stripS, strip, putS, upd_apply, st0, lenD, binD, binV, intBin, strBin, unD, indexAddrD, indexD, loadD, fieldD, fieldValD, partD, pickD, extractD, buildD, fillD, splice, mkAgg, allT, toT, D.cells, D.leaf, Value.cells, Value.oneCell', varBox, storeD, buildSliceD, pureRow, mkFn, convD, mmD, mmV, sliceD, bndD, okHead, calleeD, callD, Env.get, Env.getF, callF, frz, T.flat, appendD, rowsX, widthOk, rangeD, nextD, goInt]; refine hN _ ?_; clear hN N) | (refine W_g rfl fun N hN => ?_; simp [stepU, stepG, putQ, guardD, isQuiet, qv, nv, ev, stripS, strip, putS, upd_apply, st0, lenD, binD, binV, intBin, strBin, unD, indexAddrD, indexD, loadD, fieldD, fieldValD, partD, pickD, extractD, buildD, fillD, splice, mkAgg, allT, toT, D.cells, D.leaf, Value.cells, Value.oneCell', varBox, storeD, buildSliceD, pureRow, mkFn, convD, mmD, mmV, sliceD, bndD, okHead, calleeD, callD, Env.get, Env.getF, callF, frz, T.flat, appendD, rowsX, widthOk, rangeD, nextD, goInt]; refine hN _ ?_; clear hN N) | refine W_assoc ?_ | refine W_sskip ?_ | refine W_skip ?_ | refine W_sblock ?_ | refine W_block ?_ | refine W_sret ?_ | refine W_ret ?_ | refine W_sexit ?_ | refine W_exit ?_ | refine W_sreg (by first | exact .inl rfl | exact .inr (by kernel_rfl)) ?_ | refine W_reg (by first | exact .inl rfl | exact .inr (by kernel_rfl)) ?_))
      refine ⟨by simp, ?_⟩
      have : right p = 3 := by unfold right; rw [if_neg (by simp [c1]), if_neg c2, if_neg c3, if_pos (by simpa using hc)]
      simp [resD, resL, loadD, frz, strip, upd_apply, T.canon, mkAgg, allT, toT, this]
    have c4 : ¬ (strs p.g).length = 0 := by simpa using hc
    clear hc
    (repeat (first | refine W_nil ?_ | (refine W_u fun N hN => ?_; simp [stepU, stepG, putQ, guardD, isQuiet, qv, nv, ev, stripS, strip, putS, upd_apply, st0, lenD, binD, binV, intBin, strBin, unD, indexAddrD, indexD, loadD, fieldD, fieldValD, partD, pickD, extractD, buildD, fillD, splice, mkAgg, allT, toT, D.cells, D.leaf, Value.cells, Value.oneCell', varBox, storeD, buildSliceD, pureRow, mkFn, convD, mmD, mmV, sliceD, bndD, okHead, calleeD, callD, Env.get, Env.getF, callF, frz, T.flat, appendD, rowsX, widthOk, rangeD, nextD, goInt, hgl, hgc, hr]; refine hN _ ?_; clear hN N) | (refine W_g rfl fun N hN => ?_; simp [stepU, stepG, putQ, guardD, isQuiet, qv, nv, ev, stripS, strip, putS, upd_apply, st0, lenD, binD, binV, intBin, strBin, unD, indexAddrD, indexD, loadD, fieldD, fieldValD, partD, pickD, extractD, buildD, fillD, splice, mkAgg, allT, toT, D.cells, D.leaf, Value.cells, Value.oneCell', varBox, storeD, buildSliceD, pureRow, mkFn, convD, mmD, mmV, sliceD, bndD, okHead, calleeD, callD, Env.get, Env.getF, callF, frz, T.flat, appendD, rowsX, widthOk, rangeD, nextD, goInt, hgl, hgc, hr]; refine hN _ ?_; clear hN N) | refine W_assoc ?_ | refine W_sskip ?_ | refine W_skip ?_ | refine W_sblock ?_ | refine W_block ?_ | refine W_sret ?_ | refine W_ret ?_ | refine W_sexit ?_ | refine W_exit ?_ | refine W_sreg (by first | exact .inl rfl | exact .inr (by kernel_rfl)) ?_ | refine W_reg (by first | exact .inl rfl | exact .inr (by kernel_rfl)) ?_))
    (first | (refine W_scond fun A B hA hB => ?_) | (refine W_cond fun A B hA hB => ?_)); simp [ev, stripS, strip, upd_apply]; refine condQ_bool (fun hc => hA ?_) (fun hc => hB ?_) <;> clear hA hB A B
    · (repeat (first | refine W_nil ?_ | (refine W_u fun N hN => ?_; simp [stepU, stepG, putQ, guardD, isQuiet, qv, nv, ev, stripS, strip, putS, upd_apply, st0, lenD, binD, binV, intBin, strBin, unD, indexAddrD, indexD, loadD, fieldD, fieldValD, partD, pickD, extractD, buildD, fillD, splice, mkAgg, allT, toT, D.cells, D.leaf, Value.cells, Value.oneCell', varBox, storeD, buildSliceD, pureRow, mkFn, convD, mmD, mmV, sliceD, bndD, okHead, calleeD, callD, Env.get, Env.getF, callF, frz, T.flat, appendD, rowsX, widthOk, rangeD, nextD, goInt]; refine hN _ ?_; clear hN N) | (refine W_g rfl fun N hN => ?_; simp [stepU, stepG, putQ, guardD, isQuiet, qv, nv, ev, stripS, strip, putS, upd_apply, st0, lenD, binD, binV, intBin, strBin, unD, indexAddrD, indexD, loadD, fieldD, fieldValD, partD, pickD, extractD, buildD, fillD, splice, mkAgg, allT, toT, D.cells, D.leaf, Value.cells, Value.oneCell', varBox, storeD, buildSliceD, pureRow, mkFn, convD, mmD, mmV, sliceD, bndD, okHead, calleeD, callD, Env.get, Env.getF, callF, frz, T.flat, appendD, rowsX, widthOk, rangeD, nextD, goInt]; refine hN _ ?_; clear hN N) | refine W_assoc ?_ | refine W_sskip ?_ | refine W_skip ?_ | refine W_sblock ?_ | refine W_block ?_ | refine W_sret ?_ | refine W_ret ?_ | refine W_sexit ?_ | refine W_exit ?_ | refine W_sreg (by first | exact .inl rfl | exact .inr (by kernel_rfl)) ?_ | refine W_reg (by first | exact .inl rfl | exact .inr (by kernel_rfl)) ?_))
      refine ⟨by simp, ?_⟩
      have : right p = 4 := by unfold right; rw [if_neg (by simp [c1]), if_neg c2, if_neg c3, if_neg c4, if_pos (by simp at hc; omega)]
      simp [resD, resL, loadD, frz, strip, upd_apply, T.canon, mkAgg, allT, toT, this]
    have c5 : ¬ (strs p.g).length > 16 := by simp at hc; omega
    clear hc
    have hright : right p = if ((strs p.g).any fun s => !isName s) = true then 6 else 0 := by unfold right; rw [if_neg (by simp [c1]), if_neg c2, if_neg c3, if_neg c4, if_neg c5]
    (repeat (first | refine W_nil ?_ | (refine W_u fun N hN => ?_; simp [stepU, stepG, putQ, guardD, isQuiet, qv, nv, ev, stripS, strip, putS, upd_apply, st0, lenD, binD, binV, intBin, strBin, unD, indexAddrD, indexD, loadD, fieldD, fieldValD, partD, pickD, extractD, buildD, fillD, splice, mkAgg, allT, toT, D.cells, D.leaf, Value.cells, Value.oneCell', varBox, storeD, buildSliceD, pureRow, mkFn, convD, mmD, mmV, sliceD, bndD, okHead, calleeD, callD, Env.get, Env.getF, callF, frz, T.flat, appendD, rowsX, widthOk, rangeD, nextD, goInt]; refine hN _ ?_; clear hN N) | (refine W_g rfl fun N hN => ?_; simp [stepU, stepG, putQ, guardD, isQuiet, qv, nv, ev, stripS, strip, putS, upd_apply, st0, lenD, binD, binV, intBin, strBin, unD, indexAddrD, indexD, loadD, fieldD, fieldValD, partD, pickD, extractD, buildD, fillD, splice, mkAgg, allT, toT, D.cells, D.leaf, Value.cells, Value.oneCell', varBox, storeD, buildSliceD, pureRow, mkFn, convD, mmD, mmV, sliceD, bndD, okHead, calleeD, callD, Env.get, Env.getF, callF, frz, T.flat, appendD, rowsX, widthOk, rangeD, nextD, goInt]; refine hN _ ?_; clear hN N) | refine W_assoc ?_ | refine W_sskip ?_ | refine W_skip ?_ | refine W_sblock ?_ | refine W_block ?_ | refine W_sret ?_ | refine W_ret ?_ | refine W_sexit ?_ | refine W_exit ?_ | refine W_sreg (by first | exact .inl rfl | exact .inr (by kernel_rfl)) ?_ | refine W_reg (by first | exact .inl rfl | exact .inr (by kernel_rfl)) ?_))
    refine wpc_loop (fun m st => ∃ k : Nat, k ≤ (strs p.g).length ∧ m = (strs p.g).length - k ∧ st.s 1 = .ptr 0 0 0 ∧ st.σ 0 = some (.rows [(encProc p).map .p]) ∧ st.s 3 = .p (.v (.int .i64 k)) ∧ (((strs p.g).drop k).any fun s => !isName s) = (strs p.g).any fun s => !isName s) (strs p.g).length ⟨0, by simp, by simp, by simp [upd_apply], by simp [upd_apply, encProc], by simp [upd_apply], by simp⟩ ?_
    rintro m st ⟨k, hk, rfl, h1, hbox, h3, hno⟩
    (repeat (first | refine W_nil ?_ | (refine W_u fun N hN => ?_; simp [stepU, stepG, putQ, guardD, isQuiet, qv, nv, ev, stripS, strip, putS, upd_apply, st0, lenD, binD, binV, intBin, strBin, unD, indexAddrD, indexD, loadD, fieldD, fieldValD, partD, pickD, extractD, buildD, fillD, splice, mkAgg, allT, toT, D.cells, D.leaf, Value.cells, Value.oneCell', varBox, storeD, buildSliceD, pureRow, mkFn, convD, mmD, mmV, sliceD, bndD, okHead, calleeD, callD, Env.get, Env.getF, callF, frz, T.flat, appendD, rowsX, widthOk, rangeD, nextD, goInt, h1, hbox, h3, hr, encProc, hgl, hgc]; refine hN _ ?_; clear hN N) | (refine W_g rfl fun N hN => ?_; simp [stepU, stepG, putQ, guardD, isQuiet, qv, nv, ev, stripS, strip, putS, upd_apply, st0, lenD, binD, binV, intBin, strBin, unD, indexAddrD, indexD, loadD, fieldD, fieldValD, partD, pickD, extractD, buildD, fillD, splice, mkAgg, allT, toT, D.cells, D.leaf, Value.cells, Value.oneCell', varBox, storeD, buildSliceD, pureRow, mkFn, convD, mmD, mmV, sliceD, bndD, okHead, calleeD, callD, Env.get, Env.getF, callF, frz, T.flat, appendD, rowsX, widthOk, rangeD, nextD, goInt, h1, hbox, h3, hr, encProc, hgl, hgc]; refine hN _ ?_; clear hN N) | refine W_assoc ?_ | refine W_sskip ?_ | refine W_skip ?_ | refine W_sblock ?_ | refine W_block ?_ | refine W_sret ?_ | refine W_ret ?_ | refine W_sexit ?_ | refine W_exit ?_ | refine W_sreg (by first | exact .inl rfl | exact .inr (by kernel_rfl)) ?_ | refine W_reg (by first | exact .inl rfl | exact .inr (by kernel_rfl)) ?_))
    (first | (refine W_scond fun A B hA hB => ?_) | (refine W_cond fun A B hA hB => ?_)); simp [ev, stripS, strip, upd_apply]; refine condQ_bool (fun hc => hA ?_) (fun hc => hB ?_) <;> clear hA hB A B
    · have hlt : k < (strs p.g).length := by simpa using hc
      have hlk : (strs p.g)[k]? = some (strs p.g)[k] := by simp [hlt]
      rw [drop_cons hlt] at hno
      simp only [List.any_cons] at hno
      (repeat (first | refine W_nil ?_ | (refine W_u fun N hN => ?_; simp [stepU, stepG, putQ, guardD, isQuiet, qv, nv, ev, stripS, strip, putS, upd_apply, st0, lenD, binD, binV, intBin, strBin, unD, indexAddrD, indexD, loadD, fieldD, fieldValD, partD, pickD, extractD, buildD, fillD, splice, mkAgg, allT, toT, D.cells, D.leaf, Value.cells, Value.oneCell', varBox, storeD, buildSliceD, pureRow, mkFn, convD, mmD, mmV, sliceD, bndD, okHead, calleeD, callD, Env.get, Env.getF, callF, frz, T.flat, appendD, rowsX, widthOk, rangeD, nextD, goInt, h1, hbox, h3, hr, hlk, encProc, encS, gIsName, hgl, hgc]; refine hN _ ?_; clear hN N) | (refine W_g rfl fun N hN => ?_; simp [stepU, stepG, putQ, guardD, isQuiet, qv, nv, ev, stripS, strip, putS, upd_apply, st0, lenD, binD, binV, intBin, strBin, unD, indexAddrD, indexD, loadD, fieldD, fieldValD, partD, pickD, extractD, buildD, fillD, splice, mkAgg, allT, toT, D.cells, D.leaf, Value.cells, Value.oneCell', varBox, storeD, buildSliceD, pureRow, mkFn, convD, mmD, mmV, sliceD, bndD, okHead, calleeD, callD, Env.get, Env.getF, callF, frz, T.flat, appendD, rowsX, widthOk, rangeD, nextD, goInt, h1, hbox, h3, hr, hlk, encProc, encS, gIsName, hgl, hgc]; refine hN _ ?_; clear hN N) | refine W_assoc ?_ | refine W_sskip ?_ | refine W_skip ?_ | refine W_sblock ?_ | refine W_block ?_ | refine W_sret ?_ | refine W_ret ?_ | refine W_sexit ?_ | refine W_exit ?_ | refine W_sreg (by first | exact .inl rfl | exact .inr (by kernel_rfl)) ?_ | refine W_reg (by first | exact .inl rfl | exact .inr (by kernel_rfl)) ?_))
      (first | (refine W_scond fun A B hA hB => ?_) | (refine W_cond fun A B hA hB => ?_)); simp [ev, stripS, strip, upd_apply]; refine condQ_bool (fun hc => hA ?_) (fun hc => hB ?_) <;> clear hA hB A B
      · rw [hc] at hno
        (repeat (first | refine W_nil ?_ | (refine W_u fun N hN => ?_; simp [stepU, stepG, putQ, guardD, isQuiet, qv, nv, ev, stripS, strip, putS, upd_apply, st0, lenD, binD, binV, intBin, strBin, unD, indexAddrD, indexD, loadD, fieldD, fieldValD, partD, pickD, extractD, buildD, fillD, splice, mkAgg, allT, toT, D.cells, D.leaf, Value.cells, Value.oneCell', varBox, storeD, buildSliceD, pureRow, mkFn, convD, mmD, mmV, sliceD, bndD, okHead, calleeD, callD, Env.get, Env.getF, callF, frz, T.flat, appendD, rowsX, widthOk, rangeD, nextD, goInt]; refine hN _ ?_; clear hN N) | (refine W_g rfl fun N hN => ?_; simp [stepU, stepG, putQ, guardD, isQuiet, qv, nv, ev, stripS, strip, putS, upd_apply, st0, lenD, binD, binV, intBin, strBin, unD, indexAddrD, indexD, loadD, fieldD, fieldValD, partD, pickD, extractD, buildD, fillD, splice, mkAgg, allT, toT, D.cells, D.leaf, Value.cells, Value.oneCell', varBox, storeD, buildSliceD, pureRow, mkFn, convD, mmD, mmV, sliceD, bndD, okHead, calleeD, callD, Env.get, Env.getF, callF, frz, T.flat, appendD, rowsX, widthOk, rangeD, nextD, goInt]; refine hN _ ?_; clear hN N) | refine W_assoc ?_ | refine W_sskip ?_ | refine W_skip ?_ | refine W_sblock ?_ | refine W_block ?_ | refine W_sret ?_ | refine W_ret ?_ | refine W_sexit ?_ | refine W_exit ?_ | refine W_sreg (by first | exact .inl rfl | exact .inr (by kernel_rfl)) ?_ | refine W_reg (by first | exact .inl rfl | exact .inr (by kernel_rfl)) ?_))
        refine ⟨by simp, ?_⟩
        have : right p = 6 := by rw [hright, ← hno]; simp
        simp [resD, resL, loadD, frz, strip, upd_apply, T.canon, mkAgg, allT, toT, this]
      · rw [hc] at hno
        (repeat (first | refine W_nil ?_ | (refine W_u fun N hN => ?_; simp [stepU, stepG, putQ, guardD, isQuiet, qv, nv, ev, stripS, strip, putS, upd_apply, st0, lenD, binD, binV, intBin, strBin, unD, indexAddrD, indexD, loadD, fieldD, fieldValD, partD, pickD, extractD, buildD, fillD, splice, mkAgg, allT, toT, D.cells, D.leaf, Value.cells, Value.oneCell', varBox, storeD, buildSliceD, pureRow, mkFn, convD, mmD, mmV, sliceD, bndD, okHead, calleeD, callD, Env.get, Env.getF, callF, frz, T.flat, appendD, rowsX, widthOk, rangeD, nextD, goInt, h3]; refine hN _ ?_; clear hN N) | (refine W_g rfl fun N hN => ?_; simp [stepU, stepG, putQ, guardD, isQuiet, qv, nv, ev, stripS, strip, putS, upd_apply, st0, lenD, binD, binV, intBin, strBin, unD, indexAddrD, indexD, loadD, fieldD, fieldValD, partD, pickD, extractD, buildD, fillD, splice, mkAgg, allT, toT, D.cells, D.leaf, Value.cells, Value.oneCell', varBox, storeD, buildSliceD, pureRow, mkFn, convD, mmD, mmV, sliceD, bndD, okHead, calleeD, callD, Env.get, Env.getF, callF, frz, T.flat, appendD, rowsX, widthOk, rangeD, nextD, goInt, h3]; refine hN _ ?_; clear hN N) | refine W_assoc ?_ | refine W_sskip ?_ | refine W_skip ?_ | refine W_sblock ?_ | refine W_block ?_ | refine W_sret ?_ | refine W_ret ?_ | refine W_sexit ?_ | refine W_exit ?_ | refine W_sreg (by first | exact .inl rfl | exact .inr (by kernel_rfl)) ?_ | refine W_reg (by first | exact .inl rfl | exact .inr (by kernel_rfl)) ?_))
        refine ⟨(strs p.g).length - (k + 1), by omega, k + 1, by omega, rfl, by simp [upd_apply, h1], by simp [upd_apply, hbox], ?_, by simpa using hno⟩
        simp [upd_apply]
        exact wrap_id _ (by omega) (by omega)
    · have hkl : k = (strs p.g).length := by simp at hc; omega
      (repeat (first | refine W_nil ?_ | (refine W_u fun N hN => ?_; simp [stepU, stepG, putQ, guardD, isQuiet, qv, nv, ev, stripS, strip, putS, upd_apply, st0, lenD, binD, binV, intBin, strBin, unD, indexAddrD, indexD, loadD, fieldD, fieldValD, partD, pickD, extractD, buildD, fillD, splice, mkAgg, allT, toT, D.cells, D.leaf, Value.cells, Value.oneCell', varBox, storeD, buildSliceD, pureRow, mkFn, convD, mmD, mmV, sliceD, bndD, okHead, calleeD, callD, Env.get, Env.getF, callF, frz, T.flat, appendD, rowsX, widthOk, rangeD, nextD, goInt]; refine hN _ ?_; clear hN N) | (refine W_g rfl fun N hN => ?_; simp [stepU, stepG, putQ, guardD, isQuiet, qv, nv, ev, stripS, strip, putS, upd_apply, st0, lenD, binD, binV, intBin, strBin, unD, indexAddrD, indexD, loadD, fieldD, fieldValD, partD, pickD, extractD, buildD, fillD, splice, mkAgg, allT, toT, D.cells, D.leaf, Value.cells, Value.oneCell', varBox, storeD, buildSliceD, pureRow, mkFn, convD, mmD, mmV, sliceD, bndD, okHead, calleeD, callD, Env.get, Env.getF, callF, frz, T.flat, appendD, rowsX, widthOk, rangeD, nextD, goInt]; refine hN _ ?_; clear hN N) | refine W_assoc ?_ | refine W_sskip ?_ | refine W_skip ?_ | refine W_sblock ?_ | refine W_block ?_ | refine W_sret ?_ | refine W_ret ?_ | refine W_sexit ?_ | refine W_exit ?_ | refine W_sreg (by first | exact .inl rfl | exact .inr (by kernel_rfl)) ?_ | refine W_reg (by first | exact .inl rfl | exact .inr (by kernel_rfl)) ?_))
      refine ⟨by simp, ?_⟩
      rw [hkl] at hno
      simp only [List.drop_length, List.any_nil] at hno
      have : right p = 0 := by rw [hright, ← hno]; simp
      simp [resD, resL, loadD, frz, strip, upd_apply, T.canon, mkAgg, allT, toT, this]
  · cases h
end Go.Pv
