/-
  The statements' own functions, sixth part.
-/
import Derived.Test.YtnepemjcinpohaaPfq
set_option linter.unusedSimpArgs false
namespace Go.Pv
open Go Go.Proofs

/-! ### The order of strings -/
theorem bl_lt : ∀ (x y : List UInt8), Op.bytesLess x y = decide (x < y)
  | [], [] => by simp [Op.bytesLess]
  | _ :: _, [] => by simp [Op.bytesLess]
  | [], _ :: _ => by simp [Op.bytesLess]
  | a :: x, b :: y => by
    rw [Op.bytesLess, bl_lt x y]
    simp only [List.cons_lt_cons_iff]
    by_cases h1 : a < b <;> by_cases h2 : a = b <;> by_cases h3 : x < y <;> simp [h1, h2, h3]
theorem sless_iff (x y : ByteArray) : sless x y = true ↔ x.data.toList < y.data.toList := by simp [sless, bl_lt]
theorem bytes_ext {x y : ByteArray} (h : x.data.toList = y.data.toList) : x = y := by
  cases x; cases y
  simp only [ByteArray.mk.injEq]
  exact Array.ext' h
theorem sless_trans {x y z : ByteArray} (h1 : sless x y = true) (h2 : sless y z = true) : sless x z = true := by
  rw [sless_iff] at *
  exact List.lt_trans h1 h2
theorem sless_irrefl (x : ByteArray) : sless x x = false := by
  rw [Bool.eq_false_iff, Ne, sless_iff]
  exact List.lt_irrefl _
theorem sless_tri {x y : ByteArray} (h1 : sless x y = false) (h2 : x ≠ y) : sless y x = true := by
  rw [Bool.eq_false_iff, Ne, sless_iff] at h1
  rw [sless_iff]
  exact Classical.byContradiction fun h => h2 (bytes_ext (List.le_antisymm h h1))

/-! ### ProcedureNames -/
def ahead (o : Option ByteArray) (p : Proc) : Bool := match o with | some n => sless p.name n || decide (p.name = n) | none => false
theorem checkL_cons (o : Option ByteArray) (p : Proc) (l : List Proc) : checkL o (p :: l) = if right p ≠ 0 then right p else if ahead o p = true then 11 else checkL (some p.name) l := by cases o <;> rfl
theorem checkL_sorted : ∀ (l : List Proc) (o : Option ByteArray), checkL o l = 0 → (∀ p ∈ l, ∀ n, o = some n → sless n p.name = true) ∧ l.Pairwise (fun p q => sless p.name q.name = true)
  | [], _, _ => ⟨by simp, .nil⟩
  | p :: l, o, h => by
    rw [checkL_cons] at h
    by_cases h0 : right p ≠ 0
    · rw [if_pos h0] at h; exact absurd h h0
    · rw [if_neg h0] at h
      by_cases h1 : ahead o p = true
      · rw [if_pos h1] at h; simp at h
      · rw [if_neg h1] at h
        obtain ⟨a, b⟩ := checkL_sorted l _ h
        have hp : ∀ n, o = some n → sless n p.name = true := by
          rintro n rfl
          simp [ahead] at h1
          exact sless_tri h1.1 h1.2
        refine ⟨fun q hq n hn => ?_, .cons (fun q hq => a q hq _ rfl) b⟩
        rcases List.mem_cons.1 hq with rfl | hq
        · exact hp n hn
        · exact sless_trans (hp n hn) (a q hq _ rfl)
theorem find_sorted : ∀ (l : List Proc), l.Pairwise (fun p q => sless p.name q.name = true) → ∀ p ∈ l, l.find? (fun q => decide (q.name = p.name)) = some p
  | [], _, p, hp => by simp at hp
  | q :: l, h, p, hp => by
    cases h with
    | cons h1 h2 =>
      rcases List.mem_cons.1 hp with rfl | hp
      · simp
      · have : q.name ≠ p.name := fun e => by
          have := h1 p hp
          rw [e, sless_irrefl] at this
          cases this
        simp [this, find_sorted l h2 p hp]
theorem check_find {l : List Proc} (h : check l = 0) : l.length ≤ 32 ∧ ∀ p ∈ l, l.find? (fun q => decide (q.name = p.name)) = some p := by
  unfold check at h
  split at h
  · cases h
  · exact ⟨by omega, find_sorted l (checkL_sorted l none h).2⟩
theorem gSame_outP {p : Proc} (hp : strsOk p.g = true) : gSame [outProc p, .agg (encProc p)] = some (bT true) := by
  show (match decProc [sT p.name, iT p.kind, iT p.lo, iT p.hi, .sl false ((strs p.g).map encS), iT p.speed], decProc [sT p.name, iT p.kind, iT p.lo, iT p.hi, p.g, iT p.speed] with
    | some p, some q => some (bT (same p q))
    | _, _ => none) = _
  rw [outP_dec hp]
  have : decProc [sT p.name, iT p.kind, iT p.lo, iT p.hi, p.g, iT p.speed] = some p := by simp [decProc, hp]
  rw [this]
  simp [same, outP_strs]
  exact ⟨⟨⟨⟨rfl, rfl⟩, rfl⟩, rfl⟩, rfl⟩
def gLawNames : List T → Option T
  | [a] => (asProcs a).map fun _ => bT true
  | _ => none
theorem fn_lawNames : PureFn Try.prog 9 gLawNames := by
  refine pureFn_of (E := [(10, .pure gLight), (11, .pure gTrue), (12, .pure gFind), (14, .pure gCheck), (16, .pure gSame)]) (EnvOk.cons fn_light31 (EnvOk.cons fn_awake31 (EnvOk.cons fn_find (EnvOk.cons fn_check (EnvOk.cons fn_same (EnvOk.nil _)))))) mixed Try.func9 (by kernel_rfl) (c := _) rfl fun args r h => ?_
  unfold gLawNames at h
  split at h
  · rename_i a
    simp only [Option.map_eq_some_iff] at h
    obtain ⟨l, hl, rfl⟩ := h
    obtain ⟨⟨f, hr⟩, hok⟩ := asProcs_spec hl
    have c1 := gCheck_at hl
    have c2 := gLight_at hl
    have c3 := gFind_at hl
    refine ⟨by simp [Try.ntmps9], fun hbd => ?_⟩
    have hlen : l.length ≤ 2 ^ 47 := by simpa using Bd_rows (hbd a (by simp)) hr
    rw [Try.ntmps9, Try.results9]
    (repeat (first | refine W_nil ?_ | (refine W_u fun N hN => ?_; simp [stepU, stepG, putQ, guardD, isQuiet, qv, nv, ev, stripS, strip, putS, upd_apply, st0, lenD, binD, binV, intBin, strBin, unD, indexAddrD, indexD, loadD, fieldD, fieldValD, partD, pickD, extractD, buildD, fillD, splice, mkAgg, allT, toT, D.cells, D.leaf, Value.cells, Value.oneCell', varBox, storeD, buildSliceD, pureRow, mkFn, convD, mmD, mmV, sliceD, bndD, okHead, calleeD, callD, Env.get, Env.getF, callF, frz, T.flat, appendD, rowsX, widthOk, rangeD, nextD, goInt, c1, c2]; refine hN _ ?_; clear hN N) | (refine W_g rfl fun N hN => ?_; simp [stepU, stepG, putQ, guardD, isQuiet, qv, nv, ev, stripS, strip, putS, upd_apply, st0, lenD, binD, binV, intBin, strBin, unD, indexAddrD, indexD, loadD, fieldD, fieldValD, partD, pickD, extractD, buildD, fillD, splice, mkAgg, allT, toT, D.cells, D.leaf, Value.cells, Value.oneCell', varBox, storeD, buildSliceD, pureRow, mkFn, convD, mmD, mmV, sliceD, bndD, okHead, calleeD, callD, Env.get, Env.getF, callF, frz, T.flat, appendD, rowsX, widthOk, rangeD, nextD, goInt, c1, c2]; refine hN _ ?_; clear hN N) | refine W_assoc ?_ | refine W_sskip ?_ | refine W_skip ?_ | refine W_sblock ?_ | refine W_block ?_ | refine W_sret ?_ | refine W_ret ?_ | refine W_sexit ?_ | refine W_exit ?_ | refine W_sreg (by first | exact .inl rfl | exact .inr (by kernel_rfl)) ?_ | refine W_reg (by first | exact .inl rfl | exact .inr (by kernel_rfl)) ?_))
    (first | (refine W_scond fun A B hA hB => ?_) | (refine W_cond fun A B hA hB => ?_)); simp [ev, stripS, strip, upd_apply]; refine condQ_bool (fun hc => hA ?_) (fun hc => hB ?_) <;> clear hA hB A B
    · (repeat (first | refine W_nil ?_ | (refine W_u fun N hN => ?_; simp [stepU, stepG, putQ, guardD, isQuiet, qv, nv, ev, stripS, strip, putS, upd_apply, st0, lenD, binD, binV, intBin, strBin, unD, indexAddrD, indexD, loadD, fieldD, fieldValD, partD, pickD, extractD, buildD, fillD, splice, mkAgg, allT, toT, D.cells, D.leaf, Value.cells, Value.oneCell', varBox, storeD, buildSliceD, pureRow, mkFn, convD, mmD, mmV, sliceD, bndD, okHead, calleeD, callD, Env.get, Env.getF, callF, frz, T.flat, appendD, rowsX, widthOk, rangeD, nextD, goInt, gTrue_at]; refine hN _ ?_; clear hN N) | (refine W_g rfl fun N hN => ?_; simp [stepU, stepG, putQ, guardD, isQuiet, qv, nv, ev, stripS, strip, putS, upd_apply, st0, lenD, binD, binV, intBin, strBin, unD, indexAddrD, indexD, loadD, fieldD, fieldValD, partD, pickD, extractD, buildD, fillD, splice, mkAgg, allT, toT, D.cells, D.leaf, Value.cells, Value.oneCell', varBox, storeD, buildSliceD, pureRow, mkFn, convD, mmD, mmV, sliceD, bndD, okHead, calleeD, callD, Env.get, Env.getF, callF, frz, T.flat, appendD, rowsX, widthOk, rangeD, nextD, goInt, gTrue_at]; refine hN _ ?_; clear hN N) | refine W_assoc ?_ | refine W_sskip ?_ | refine W_skip ?_ | refine W_sblock ?_ | refine W_block ?_ | refine W_sret ?_ | refine W_ret ?_ | refine W_sexit ?_ | refine W_exit ?_ | refine W_sreg (by first | exact .inl rfl | exact .inr (by kernel_rfl)) ?_ | refine W_reg (by first | exact .inl rfl | exact .inr (by kernel_rfl)) ?_))
      refine ⟨by simp, ?_⟩
      simp [resD, resL, loadD, frz, strip, upd_apply, T.canon, mkAgg, allT, toT]
    · have hchk : check l = 0 := by
        cases hb : light l <;> simp [hb] at hc
        exact hc
      obtain ⟨h32, hfind⟩ := check_find hchk
      clear hc
      (repeat (first | refine W_nil ?_ | (refine W_u fun N hN => ?_; simp [stepU, stepG, putQ, guardD, isQuiet, qv, nv, ev, stripS, strip, putS, upd_apply, st0, lenD, binD, binV, intBin, strBin, unD, indexAddrD, indexD, loadD, fieldD, fieldValD, partD, pickD, extractD, buildD, fillD, splice, mkAgg, allT, toT, D.cells, D.leaf, Value.cells, Value.oneCell', varBox, storeD, buildSliceD, pureRow, mkFn, convD, mmD, mmV, sliceD, bndD, okHead, calleeD, callD, Env.get, Env.getF, callF, frz, T.flat, appendD, rowsX, widthOk, rangeD, nextD, goInt]; refine hN _ ?_; clear hN N) | (refine W_g rfl fun N hN => ?_; simp [stepU, stepG, putQ, guardD, isQuiet, qv, nv, ev, stripS, strip, putS, upd_apply, st0, lenD, binD, binV, intBin, strBin, unD, indexAddrD, indexD, loadD, fieldD, fieldValD, partD, pickD, extractD, buildD, fillD, splice, mkAgg, allT, toT, D.cells, D.leaf, Value.cells, Value.oneCell', varBox, storeD, buildSliceD, pureRow, mkFn, convD, mmD, mmV, sliceD, bndD, okHead, calleeD, callD, Env.get, Env.getF, callF, frz, T.flat, appendD, rowsX, widthOk, rangeD, nextD, goInt]; refine hN _ ?_; clear hN N) | refine W_assoc ?_ | refine W_sskip ?_ | refine W_skip ?_ | refine W_sblock ?_ | refine W_block ?_ | refine W_sret ?_ | refine W_ret ?_ | refine W_sexit ?_ | refine W_exit ?_ | refine W_sreg (by first | exact .inl rfl | exact .inr (by kernel_rfl)) ?_ | refine W_reg (by first | exact .inl rfl | exact .inr (by kernel_rfl)) ?_))
      refine wpc_loop (fun m st => ∃ i : Nat, i ≤ l.length ∧ m = l.length - i ∧ st.s 0 = .p a ∧ st.s 3 = .p (.v (.int .i64 i))) l.length ⟨0, by simp, by simp, by simp [upd_apply], by simp [upd_apply]⟩ ?_
      rintro m st ⟨i, hi, rfl, h0, h3⟩
      (repeat (first | refine W_nil ?_ | (refine W_u fun N hN => ?_; simp [stepU, stepG, putQ, guardD, isQuiet, qv, nv, ev, stripS, strip, putS, upd_apply, st0, lenD, binD, binV, intBin, strBin, unD, indexAddrD, indexD, loadD, fieldD, fieldValD, partD, pickD, extractD, buildD, fillD, splice, mkAgg, allT, toT, D.cells, D.leaf, Value.cells, Value.oneCell', varBox, storeD, buildSliceD, pureRow, mkFn, convD, mmD, mmV, sliceD, bndD, okHead, calleeD, callD, Env.get, Env.getF, callF, frz, T.flat, appendD, rowsX, widthOk, rangeD, nextD, goInt, h0, h3, hr]; refine hN _ ?_; clear hN N) | (refine W_g rfl fun N hN => ?_; simp [stepU, stepG, putQ, guardD, isQuiet, qv, nv, ev, stripS, strip, putS, upd_apply, st0, lenD, binD, binV, intBin, strBin, unD, indexAddrD, indexD, loadD, fieldD, fieldValD, partD, pickD, extractD, buildD, fillD, splice, mkAgg, allT, toT, D.cells, D.leaf, Value.cells, Value.oneCell', varBox, storeD, buildSliceD, pureRow, mkFn, convD, mmD, mmV, sliceD, bndD, okHead, calleeD, callD, Env.get, Env.getF, callF, frz, T.flat, appendD, rowsX, widthOk, rangeD, nextD, goInt, h0, h3, hr]; refine hN _ ?_; clear hN N) | refine W_assoc ?_ | refine W_sskip ?_ | refine W_skip ?_ | refine W_sblock ?_ | refine W_block ?_ | refine W_sret ?_ | refine W_ret ?_ | refine W_sexit ?_ | refine W_exit ?_ | refine W_sreg (by first | exact .inl rfl | exact .inr (by kernel_rfl)) ?_ | refine W_reg (by first | exact .inl rfl | exact .inr (by kernel_rfl)) ?_))
      (first | (refine W_scond fun A B hA hB => ?_) | (refine W_cond fun A B hA hB => ?_)); simp [ev, stripS, strip, upd_apply]; refine condQ_bool (fun hc => hA ?_) (fun hc => hB ?_) <;> clear hA hB A B
      · have hlt : i < l.length := by simpa using hc
        have hlk : l[i]? = some l[i] := by simp [hlt]
        have hmem : l[i] ∈ l := List.getElem_mem hlt
        have hpok := hok _ hmem
        have hf := hfind _ hmem
        generalize l[i] = p at *
        have hgl := (strsOk_leaf hpok).1
        have hgc := (strsOk_leaf hpok).2
        have c3 := c3 p.name
        rw [hf] at c3
        have c4 := gSame_outP hpok
        simp only [outProc, encProc] at c3 c4
        clear hc
        (repeat (first | refine W_nil ?_ | (refine W_u fun N hN => ?_; simp [stepU, stepG, putQ, guardD, isQuiet, qv, nv, ev, stripS, strip, putS, upd_apply, st0, lenD, binD, binV, intBin, strBin, unD, indexAddrD, indexD, loadD, fieldD, fieldValD, partD, pickD, extractD, buildD, fillD, splice, mkAgg, allT, toT, D.cells, D.leaf, Value.cells, Value.oneCell', varBox, storeD, buildSliceD, pureRow, mkFn, convD, mmD, mmV, sliceD, bndD, okHead, calleeD, callD, Env.get, Env.getF, callF, frz, T.flat, appendD, rowsX, widthOk, rangeD, nextD, goInt, h0, h3, hr, hlk, encProc, hgl, hgc, c3, c4]; refine hN _ ?_; clear hN N) | (refine W_g rfl fun N hN => ?_; simp [stepU, stepG, putQ, guardD, isQuiet, qv, nv, ev, stripS, strip, putS, upd_apply, st0, lenD, binD, binV, intBin, strBin, unD, indexAddrD, indexD, loadD, fieldD, fieldValD, partD, pickD, extractD, buildD, fillD, splice, mkAgg, allT, toT, D.cells, D.leaf, Value.cells, Value.oneCell', varBox, storeD, buildSliceD, pureRow, mkFn, convD, mmD, mmV, sliceD, bndD, okHead, calleeD, callD, Env.get, Env.getF, callF, frz, T.flat, appendD, rowsX, widthOk, rangeD, nextD, goInt, h0, h3, hr, hlk, encProc, hgl, hgc, c3, c4]; refine hN _ ?_; clear hN N) | refine W_assoc ?_ | refine W_sskip ?_ | refine W_skip ?_ | refine W_sblock ?_ | refine W_block ?_ | refine W_sret ?_ | refine W_ret ?_ | refine W_sexit ?_ | refine W_exit ?_ | refine W_sreg (by first | exact .inl rfl | exact .inr (by kernel_rfl)) ?_ | refine W_reg (by first | exact .inl rfl | exact .inr (by kernel_rfl)) ?_))
        (first | (refine W_scond fun A B hA hB => ?_) | (refine W_cond fun A B hA hB => ?_)); simp [ev, stripS, strip, upd_apply]; refine condQ_false (hB ?_); clear hA hB A B
        (repeat (first | refine W_nil ?_ | (refine W_u fun N hN => ?_; simp [stepU, stepG, putQ, guardD, isQuiet, qv, nv, ev, stripS, strip, putS, upd_apply, st0, lenD, binD, binV, intBin, strBin, unD, indexAddrD, indexD, loadD, fieldD, fieldValD, partD, pickD, extractD, buildD, fillD, splice, mkAgg, allT, toT, D.cells, D.leaf, Value.cells, Value.oneCell', varBox, storeD, buildSliceD, pureRow, mkFn, convD, mmD, mmV, sliceD, bndD, okHead, calleeD, callD, Env.get, Env.getF, callF, frz, T.flat, appendD, rowsX, widthOk, rangeD, nextD, goInt, h0, h3]; refine hN _ ?_; clear hN N) | (refine W_g rfl fun N hN => ?_; simp [stepU, stepG, putQ, guardD, isQuiet, qv, nv, ev, stripS, strip, putS, upd_apply, st0, lenD, binD, binV, intBin, strBin, unD, indexAddrD, indexD, loadD, fieldD, fieldValD, partD, pickD, extractD, buildD, fillD, splice, mkAgg, allT, toT, D.cells, D.leaf, Value.cells, Value.oneCell', varBox, storeD, buildSliceD, pureRow, mkFn, convD, mmD, mmV, sliceD, bndD, okHead, calleeD, callD, Env.get, Env.getF, callF, frz, T.flat, appendD, rowsX, widthOk, rangeD, nextD, goInt, h0, h3]; refine hN _ ?_; clear hN N) | refine W_assoc ?_ | refine W_sskip ?_ | refine W_skip ?_ | refine W_sblock ?_ | refine W_block ?_ | refine W_sret ?_ | refine W_ret ?_ | refine W_sexit ?_ | refine W_exit ?_ | refine W_sreg (by first | exact .inl rfl | exact .inr (by kernel_rfl)) ?_ | refine W_reg (by first | exact .inl rfl | exact .inr (by kernel_rfl)) ?_))
        refine ⟨l.length - (i + 1), by omega, i + 1, by omega, rfl, by simp [upd_apply, h0], ?_⟩
        simp [upd_apply]
        exact wrap_id _ (by omega) (by omega)
      · have : decide ((l.length : Int) ≤ 32) = true := by simp; omega
        (repeat (first | refine W_nil ?_ | (refine W_u fun N hN => ?_; simp [stepU, stepG, putQ, guardD, isQuiet, qv, nv, ev, stripS, strip, putS, upd_apply, st0, lenD, binD, binV, intBin, strBin, unD, indexAddrD, indexD, loadD, fieldD, fieldValD, partD, pickD, extractD, buildD, fillD, splice, mkAgg, allT, toT, D.cells, D.leaf, Value.cells, Value.oneCell', varBox, storeD, buildSliceD, pureRow, mkFn, convD, mmD, mmV, sliceD, bndD, okHead, calleeD, callD, Env.get, Env.getF, callF, frz, T.flat, appendD, rowsX, widthOk, rangeD, nextD, goInt, h0, h3, hr, this, gTrue_at]; refine hN _ ?_; clear hN N) | (refine W_g rfl fun N hN => ?_; simp [stepU, stepG, putQ, guardD, isQuiet, qv, nv, ev, stripS, strip, putS, upd_apply, st0, lenD, binD, binV, intBin, strBin, unD, indexAddrD, indexD, loadD, fieldD, fieldValD, partD, pickD, extractD, buildD, fillD, splice, mkAgg, allT, toT, D.cells, D.leaf, Value.cells, Value.oneCell', varBox, storeD, buildSliceD, pureRow, mkFn, convD, mmD, mmV, sliceD, bndD, okHead, calleeD, callD, Env.get, Env.getF, callF, frz, T.flat, appendD, rowsX, widthOk, rangeD, nextD, goInt, h0, h3, hr, this, gTrue_at]; refine hN _ ?_; clear hN N) | refine W_assoc ?_ | refine W_sskip ?_ | refine W_skip ?_ | refine W_sblock ?_ | refine W_block ?_ | refine W_sret ?_ | refine W_ret ?_ | refine W_sexit ?_ | refine W_exit ?_ | refine W_sreg (by first | exact .inl rfl | exact .inr (by kernel_rfl)) ?_ | refine W_reg (by first | exact .inl rfl | exact .inr (by kernel_rfl)) ?_))
        refine ⟨by simp, ?_⟩
        simp [resD, resL, loadD, frz, strip, upd_apply, T.canon, mkAgg, allT, toT]
  · cases h
end Go.Pv
