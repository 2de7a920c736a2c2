/-
  Designs: parts, copied.
-/
import Derived.Test.YtnepemjcinpohaaPfh
set_option linter.unusedSimpArgs false
namespace Go.Pv
open Go Go.Proofs

def copyT (p : Part) : T := .agg (encPart' p (.sl false (rowsOf p.outer)) (.sl false ((holes p.holes).map fun h => [.sl false (rowsOf h)])))
def gPart : List T → Option T
  | [.agg d, .v (.string id)] => (decDesign d).map fun d => match (dParts d).find? (fun s => decide (s.id = id)) with
    | some s => .tup [copyT s, bT true]
    | none => .tup [noPart, bT false]
  | _ => none
/-- The rows while they are copied. -/
def mixed_ (hs : List T) (k : Nat) : List (List D) := (hs.take k).map (fun h => [.p (.sl false (rowsOf h))]) ++ (hs.drop k).map (fun h => [.p h])
theorem mixed_length (hs : List T) (k : Nat) : (mixed_ hs k).length = hs.length := by simp [mixed_]; omega
theorem mixed_set (hs : List T) (k : Nat) (h : k < hs.length) : (mixed_ hs k).set k [.p (.sl false (rowsOf hs[k]))] = mixed_ hs (k + 1) := by
  have hl : ((hs.take k).map (fun h => [D.p (.sl false (rowsOf h))])).length = k := by simp; omega
  unfold mixed_
  rw [List.set_append_right _ _ (by omega), hl, Nat.sub_self, drop_cons h, List.map_cons, List.set_cons_zero, List.take_succ_eq_append_getElem h, List.map_append, List.append_assoc]
  rfl
theorem mixed_end (hs : List T) : mixed_ hs hs.length = hs.map fun h => [.p (.sl false (rowsOf h))] := by simp [mixed_]

theorem mixed_get (hs : List T) (k : Nat) (h : k < hs.length) : (mixed_ hs k)[k]? = some [.p hs[k]] := by
  have hl : ((hs.take k).map (fun h => [D.p (.sl false (rowsOf h))])).length = k := by simp; omega
  unfold mixed_
  rw [List.getElem?_append_right (by omega), hl, Nat.sub_self, drop_cons h]
  rfl
theorem mixed_zero (hs : List T) : mixed_ hs 0 = hs.map fun h => [.p h] := by simp [mixed_]
theorem frz_mixed (σ : Nat → Option Box) (n : Nat) (hs : List T) : (hs.map fun h => [D.p (.sl false (rowsOf h))]).mapM (fun r => r.mapM (frz σ n)) = some (hs.map fun h => [.sl false (rowsOf h)]) := by
  have e : (hs.map fun h => [D.p (.sl false (rowsOf h))]) = (hs.map fun h => [T.sl false (rowsOf h)]).map fun r => r.map D.p := by simp
  rw [e, frz_rows]

theorem frz_mixed' (σ : Nat → Option Box) (n : Nat) (hs : List T) : hs.mapM ((fun r => r.mapM (frz σ n)) ∘ fun h => [D.p (.sl false (rowsOf h))]) = some (hs.map fun h => [.sl false (rowsOf h)]) := by
  have := frz_mixed σ n hs
  rwa [List.mapM_map] at this

theorem fn_part : PureFn Try.prog 37 gPart := by
  refine pureFn_of (E := [(46, .pure (gClone 2 16)), (47, .fresh (gRows 1 24))]) (EnvOk.cons fn_cloneP (EnvOk.fresh fr_clonePP (EnvOk.nil _))) mixed Try.func37 (by kernel_rfl) (c := _) rfl fun args r h => ?_
  unfold gPart at h
  split at h
  · rename_i dr id
    simp only [Option.map_eq_some_iff] at h
    obtain ⟨d, hd, rfl⟩ := h
    have hok := decDesign_ok hd
    obtain ⟨⟨l1, l2, l3, l4, l5⟩, ⟨e1, e2, e3, e4, e5⟩⟩ := hok.leaves
    have hd' := decDesign_spec _ _ hd
    subst hd'
    obtain ⟨f, hr⟩ := asL_spec decPart_spec hok.parts
    have hdec := asL_dec decPart_spec hok.parts
    refine ⟨by simp [Try.ntmps37], fun hbd => ?_⟩
    have hlen : (dParts d).length ≤ 2 ^ 47 := by
      have h1 := hbd (.agg (encDesign d)) (by simp)
      have h2 := (Bd_agg _).1 h1 d.parts (by simp [encDesign])
      simpa using Bd_rows h2 hr
    rw [Try.ntmps37, Try.results37]
    (repeat (first | refine W_nil ?_ | (refine W_u fun N hN => ?_; simp [stepU, stepG, putQ, guardD, isQuiet, qv, nv, ev, stripS, strip, putS, upd_apply, st0, lenD, binD, binV, intBin, strBin, unD, indexAddrD, indexD, loadD, fieldD, fieldValD, partD, pickD, extractD, buildD, fillD, splice, mkAgg, allT, toT, D.cells, D.leaf, Value.cells, Value.oneCell', varBox, storeD, buildSliceD, pureRow, mkFn, convD, mmD, mmV, sliceD, bndD, okHead, calleeD, callD, Env.get, Env.getF, callF, frz, T.flat, appendD, rowsX, widthOk, rangeD, nextD, goInt, encDesign, l1, l2, l3, l4, l5, e1, e2, e3, e4, e5, hr]; refine hN _ ?_; clear hN N) | (refine W_g rfl fun N hN => ?_; simp [stepU, stepG, putQ, guardD, isQuiet, qv, nv, ev, stripS, strip, putS, upd_apply, st0, lenD, binD, binV, intBin, strBin, unD, indexAddrD, indexD, loadD, fieldD, fieldValD, partD, pickD, extractD, buildD, fillD, splice, mkAgg, allT, toT, D.cells, D.leaf, Value.cells, Value.oneCell', varBox, storeD, buildSliceD, pureRow, mkFn, convD, mmD, mmV, sliceD, bndD, okHead, calleeD, callD, Env.get, Env.getF, callF, frz, T.flat, appendD, rowsX, widthOk, rangeD, nextD, goInt, encDesign, l1, l2, l3, l4, l5, e1, e2, e3, e4, e5, hr]; refine hN _ ?_; clear hN N) | refine W_assoc ?_ | refine W_sskip ?_ | refine W_skip ?_ | refine W_sblock ?_ | refine W_block ?_ | refine W_sret ?_ | refine W_ret ?_ | refine W_sexit ?_ | refine W_exit ?_ | refine W_sreg (by first | exact .inl rfl | exact .inr (by kernel_rfl)) ?_ | refine W_reg (by first | exact .inl rfl | exact .inr (by kernel_rfl)) ?_))
    generalize hl : dParts d = l at *
    refine wpc_loop (fun m st => ∃ k : Nat, k ≤ l.length ∧ m = l.length - k ∧ 2 ≤ st.n ∧ st.s 1 = .p (.v (.string id)) ∧ st.s 4 = .ptr 1 0 0 ∧ st.σ 1 = some (.rows [noPartD]) ∧ st.s 5 = .p (bT false) ∧ st.s 11 = .p d.parts ∧ st.s 12 = .p (.v (.int .i64 l.length)) ∧ st.s 13 = .p (.v (.int .i64 k)) ∧ (l.drop k).find? (fun s => decide (s.id = id)) = l.find? (fun s => decide (s.id = id))) l.length ⟨0, by simp, by simp, by simp, by simp [upd_apply], by simp [upd_apply], by simp [upd_apply, noPartD], by simp [upd_apply], by simp [upd_apply], by simp [upd_apply], by simp [upd_apply], by simp⟩ ?_
    rintro m st ⟨k, hk, rfl, hn, h1, h4, hb1, h5, h11, h12, h13, hno⟩
    have n1 : ¬ (1 = st.n) := by omega
    have n2 : ¬ (st.n = 1) := by omega
    (repeat (first | refine W_nil ?_ | (refine W_u fun N hN => ?_; simp [stepU, stepG, putQ, guardD, isQuiet, qv, nv, ev, stripS, strip, putS, upd_apply, st0, lenD, binD, binV, intBin, strBin, unD, indexAddrD, indexD, loadD, fieldD, fieldValD, partD, pickD, extractD, buildD, fillD, splice, mkAgg, allT, toT, D.cells, D.leaf, Value.cells, Value.oneCell', varBox, storeD, buildSliceD, pureRow, mkFn, convD, mmD, mmV, sliceD, bndD, okHead, calleeD, callD, Env.get, Env.getF, callF, frz, T.flat, appendD, rowsX, widthOk, rangeD, nextD, goInt, h11, h12, h13]; refine hN _ ?_; clear hN N) | (refine W_g rfl fun N hN => ?_; simp [stepU, stepG, putQ, guardD, isQuiet, qv, nv, ev, stripS, strip, putS, upd_apply, st0, lenD, binD, binV, intBin, strBin, unD, indexAddrD, indexD, loadD, fieldD, fieldValD, partD, pickD, extractD, buildD, fillD, splice, mkAgg, allT, toT, D.cells, D.leaf, Value.cells, Value.oneCell', varBox, storeD, buildSliceD, pureRow, mkFn, convD, mmD, mmV, sliceD, bndD, okHead, calleeD, callD, Env.get, Env.getF, callF, frz, T.flat, appendD, rowsX, widthOk, rangeD, nextD, goInt, h11, h12, h13]; refine hN _ ?_; clear hN N) | refine W_assoc ?_ | refine W_sskip ?_ | refine W_skip ?_ | refine W_sblock ?_ | refine W_block ?_ | refine W_sret ?_ | refine W_ret ?_ | refine W_sexit ?_ | refine W_exit ?_ | refine W_sreg (by first | exact .inl rfl | exact .inr (by kernel_rfl)) ?_ | refine W_reg (by first | exact .inl rfl | exact .inr (by kernel_rfl)) ?_))
    (first | (refine W_scond fun A B hA hB => ?_) | (refine W_cond fun A B hA hB => ?_)); simp [ev, stripS, strip, upd_apply]; refine condQ_bool (fun hc => hA ?_) (fun hc => hB ?_) <;> clear hA hB A B
    · have hlt : k < l.length := by simpa using hc
      have hlk : l[k]? = some l[k] := by simp [hlt]
      have hpok := decPart_ok (hdec _ (List.getElem_mem hlt))
      rw [drop_cons hlt] at hno
      simp only [List.find?_cons] at hno
      generalize hp : l[k] = s at *
      obtain ⟨ho, hh⟩ := hpok
      obtain ⟨⟨fo, hor⟩, _, hol, hoc⟩ := listOkC_spec ho
      obtain ⟨_, hhb, ⟨fh, hhr⟩, hhok, hhl, hhc⟩ := holesOk_spec hh
      clear hc
      (repeat (first | refine W_nil ?_ | (refine W_u fun N hN => ?_; simp [stepU, stepG, putQ, guardD, isQuiet, qv, nv, ev, stripS, strip, putS, upd_apply, st0, lenD, binD, binV, intBin, strBin, unD, indexAddrD, indexD, loadD, fieldD, fieldValD, partD, pickD, extractD, buildD, fillD, splice, mkAgg, allT, toT, D.cells, D.leaf, Value.cells, Value.oneCell', varBox, storeD, buildSliceD, pureRow, mkFn, convD, mmD, mmV, sliceD, bndD, okHead, calleeD, callD, Env.get, Env.getF, callF, frz, T.flat, appendD, rowsX, widthOk, rangeD, nextD, goInt, h1, h4, h11, h12, h13, hr, hlk, encPart, encPart', hol, hoc, hhl, hhc]; refine hN _ ?_; clear hN N) | (refine W_g rfl fun N hN => ?_; simp [stepU, stepG, putQ, guardD, isQuiet, qv, nv, ev, stripS, strip, putS, upd_apply, st0, lenD, binD, binV, intBin, strBin, unD, indexAddrD, indexD, loadD, fieldD, fieldValD, partD, pickD, extractD, buildD, fillD, splice, mkAgg, allT, toT, D.cells, D.leaf, Value.cells, Value.oneCell', varBox, storeD, buildSliceD, pureRow, mkFn, convD, mmD, mmV, sliceD, bndD, okHead, calleeD, callD, Env.get, Env.getF, callF, frz, T.flat, appendD, rowsX, widthOk, rangeD, nextD, goInt, h1, h4, h11, h12, h13, hr, hlk, encPart, encPart', hol, hoc, hhl, hhc]; refine hN _ ?_; clear hN N) | refine W_assoc ?_ | refine W_sskip ?_ | refine W_skip ?_ | refine W_sblock ?_ | refine W_block ?_ | refine W_sret ?_ | refine W_ret ?_ | refine W_sexit ?_ | refine W_exit ?_ | refine W_sreg (by first | exact .inl rfl | exact .inr (by kernel_rfl)) ?_ | refine W_reg (by first | exact .inl rfl | exact .inr (by kernel_rfl)) ?_))
      (first | (refine W_scond fun A B hA hB => ?_) | (refine W_cond fun A B hA hB => ?_)); simp [ev, stripS, strip, upd_apply, h1]; refine condQ_bool (fun hc => hA ?_) (fun hc => hB ?_) <;> clear hA hB A B
      · rw [hc] at hno
        have hco := listOkC_clone ho
        have hrw : gRows 1 24 [s.holes] = some ((holes s.holes).map encH) := by
          have : copyOk 1 24 ((holes s.holes).map encH) = true := by
            unfold copyOk
            rw [allW_encs 1 encH _ (fun _ => rfl)]
            simp
            omega
          simp [gRows, hhr, this]
        generalize hhs : holes s.holes = hs at *
        cases hs with
        | nil =>
          (repeat (first | refine W_nil ?_ | (refine W_u fun N hN => ?_; simp [stepU, stepG, putQ, guardD, isQuiet, qv, nv, ev, stripS, strip, putS, upd_apply, st0, lenD, binD, binV, intBin, strBin, unD, indexAddrD, indexD, loadD, fieldD, fieldValD, partD, pickD, extractD, buildD, fillD, splice, mkAgg, allT, toT, D.cells, D.leaf, Value.cells, Value.oneCell', varBox, storeD, buildSliceD, pureRow, mkFn, convD, mmD, mmV, sliceD, bndD, okHead, calleeD, callD, Env.get, Env.getF, callF, frz, T.flat, appendD, rowsX, widthOk, rangeD, nextD, goInt, hol, hoc, hhl, hhc, hco, hrw]; refine hN _ ?_; clear hN N) | (refine W_g rfl fun N hN => ?_; simp [stepU, stepG, putQ, guardD, isQuiet, qv, nv, ev, stripS, strip, putS, upd_apply, st0, lenD, binD, binV, intBin, strBin, unD, indexAddrD, indexD, loadD, fieldD, fieldValD, partD, pickD, extractD, buildD, fillD, splice, mkAgg, allT, toT, D.cells, D.leaf, Value.cells, Value.oneCell', varBox, storeD, buildSliceD, pureRow, mkFn, convD, mmD, mmV, sliceD, bndD, okHead, calleeD, callD, Env.get, Env.getF, callF, frz, T.flat, appendD, rowsX, widthOk, rangeD, nextD, goInt, hol, hoc, hhl, hhc, hco, hrw]; refine hN _ ?_; clear hN N) | refine W_assoc ?_ | refine W_sskip ?_ | refine W_skip ?_ | refine W_sblock ?_ | refine W_block ?_ | refine W_sret ?_ | refine W_ret ?_ | refine W_sexit ?_ | refine W_exit ?_ | refine W_sreg (by first | exact .inl rfl | exact .inr (by kernel_rfl)) ?_ | refine W_reg (by first | exact .inl rfl | exact .inr (by kernel_rfl)) ?_))
          refine wpc_loop (fun m x => x = _) 0 rfl ?_
          rintro m x rfl
          (repeat (first | refine W_nil ?_ | (refine W_u fun N hN => ?_; simp [stepU, stepG, putQ, guardD, isQuiet, qv, nv, ev, stripS, strip, putS, upd_apply, st0, lenD, binD, binV, intBin, strBin, unD, indexAddrD, indexD, loadD, fieldD, fieldValD, partD, pickD, extractD, buildD, fillD, splice, mkAgg, allT, toT, D.cells, D.leaf, Value.cells, Value.oneCell', varBox, storeD, buildSliceD, pureRow, mkFn, convD, mmD, mmV, sliceD, bndD, okHead, calleeD, callD, Env.get, Env.getF, callF, frz, T.flat, appendD, rowsX, widthOk, rangeD, nextD, goInt]; refine hN _ ?_; clear hN N) | (refine W_g rfl fun N hN => ?_; simp [stepU, stepG, putQ, guardD, isQuiet, qv, nv, ev, stripS, strip, putS, upd_apply, st0, lenD, binD, binV, intBin, strBin, unD, indexAddrD, indexD, loadD, fieldD, fieldValD, partD, pickD, extractD, buildD, fillD, splice, mkAgg, allT, toT, D.cells, D.leaf, Value.cells, Value.oneCell', varBox, storeD, buildSliceD, pureRow, mkFn, convD, mmD, mmV, sliceD, bndD, okHead, calleeD, callD, Env.get, Env.getF, callF, frz, T.flat, appendD, rowsX, widthOk, rangeD, nextD, goInt]; refine hN _ ?_; clear hN N) | refine W_assoc ?_ | refine W_sskip ?_ | refine W_skip ?_ | refine W_sblock ?_ | refine W_block ?_ | refine W_sret ?_ | refine W_ret ?_ | refine W_sexit ?_ | refine W_exit ?_ | refine W_sreg (by first | exact .inl rfl | exact .inr (by kernel_rfl)) ?_ | refine W_reg (by first | exact .inl rfl | exact .inr (by kernel_rfl)) ?_))
          (first | (refine W_scond fun A B hA hB => ?_) | (refine W_cond fun A B hA hB => ?_)); simp [ev, stripS, strip, upd_apply]; refine condQ_false (hB ?_); clear hA hB A B
          (repeat (first | refine W_nil ?_ | (refine W_u fun N hN => ?_; simp [stepU, stepG, putQ, guardD, isQuiet, qv, nv, ev, stripS, strip, putS, upd_apply, st0, lenD, binD, binV, intBin, strBin, unD, indexAddrD, indexD, loadD, fieldD, fieldValD, partD, pickD, extractD, buildD, fillD, splice, mkAgg, allT, toT, D.cells, D.leaf, Value.cells, Value.oneCell', varBox, storeD, buildSliceD, pureRow, mkFn, convD, mmD, mmV, sliceD, bndD, okHead, calleeD, callD, Env.get, Env.getF, callF, frz, T.flat, appendD, rowsX, widthOk, rangeD, nextD, goInt, n1, n2, hb1, h4, noPartD]; refine hN _ ?_; clear hN N) | (refine W_g rfl fun N hN => ?_; simp [stepU, stepG, putQ, guardD, isQuiet, qv, nv, ev, stripS, strip, putS, upd_apply, st0, lenD, binD, binV, intBin, strBin, unD, indexAddrD, indexD, loadD, fieldD, fieldValD, partD, pickD, extractD, buildD, fillD, splice, mkAgg, allT, toT, D.cells, D.leaf, Value.cells, Value.oneCell', varBox, storeD, buildSliceD, pureRow, mkFn, convD, mmD, mmV, sliceD, bndD, okHead, calleeD, callD, Env.get, Env.getF, callF, frz, T.flat, appendD, rowsX, widthOk, rangeD, nextD, goInt, n1, n2, hb1, h4, noPartD]; refine hN _ ?_; clear hN N) | refine W_assoc ?_ | refine W_sskip ?_ | refine W_skip ?_ | refine W_sblock ?_ | refine W_block ?_ | refine W_sret ?_ | refine W_ret ?_ | refine W_sexit ?_ | refine W_exit ?_ | refine W_sreg (by first | exact .inl rfl | exact .inr (by kernel_rfl)) ?_ | refine W_reg (by first | exact .inl rfl | exact .inr (by kernel_rfl)) ?_))
          refine ⟨by simp, ?_⟩
          simp [resD, resL, loadD, frz, strip, upd_apply, T.canon, mkAgg, allT, toT, ← hno, copyT, encPart', hhs, h4, n1, n2]
        | cons h0 hs =>
          (repeat (first | refine W_nil ?_ | (refine W_u fun N hN => ?_; simp [stepU, stepG, putQ, guardD, isQuiet, qv, nv, ev, stripS, strip, putS, upd_apply, st0, lenD, binD, binV, intBin, strBin, unD, indexAddrD, indexD, loadD, fieldD, fieldValD, partD, pickD, extractD, buildD, fillD, splice, mkAgg, allT, toT, D.cells, D.leaf, Value.cells, Value.oneCell', varBox, storeD, buildSliceD, pureRow, mkFn, convD, mmD, mmV, sliceD, bndD, okHead, calleeD, callD, Env.get, Env.getF, callF, frz, T.flat, appendD, rowsX, widthOk, rangeD, nextD, goInt, hol, hoc, hhl, hhc, hco, hrw]; refine hN _ ?_; clear hN N) | (refine W_g rfl fun N hN => ?_; simp [stepU, stepG, putQ, guardD, isQuiet, qv, nv, ev, stripS, strip, putS, upd_apply, st0, lenD, binD, binV, intBin, strBin, unD, indexAddrD, indexD, loadD, fieldD, fieldValD, partD, pickD, extractD, buildD, fillD, splice, mkAgg, allT, toT, D.cells, D.leaf, Value.cells, Value.oneCell', varBox, storeD, buildSliceD, pureRow, mkFn, convD, mmD, mmV, sliceD, bndD, okHead, calleeD, callD, Env.get, Env.getF, callF, frz, T.flat, appendD, rowsX, widthOk, rangeD, nextD, goInt, hol, hoc, hhl, hhc, hco, hrw]; refine hN _ ?_; clear hN N) | refine W_assoc ?_ | refine W_sskip ?_ | refine W_skip ?_ | refine W_sblock ?_ | refine W_block ?_ | refine W_sret ?_ | refine W_ret ?_ | refine W_sexit ?_ | refine W_exit ?_ | refine W_sreg (by first | exact .inl rfl | exact .inr (by kernel_rfl)) ?_ | refine W_reg (by first | exact .inl rfl | exact .inr (by kernel_rfl)) ?_))
          generalize hH : h0 :: hs = H at *
          refine wpc_loop (fun m x => ∃ j : Nat, j ≤ H.length ∧ m = H.length - j ∧ x.s 4 = .ptr 1 0 0 ∧ x.s 7 = .ptr st.n 0 0 ∧ x.s 35 = .bs (st.n + 1 + 1) 0 H.length ∧ x.s 36 = .p (.v (.int .i64 H.length)) ∧ x.s 37 = .p (.v (.int .i64 j)) ∧ x.σ 1 = some (.rows [noPartD]) ∧
              x.σ st.n = some (.rows [[.p (sT s.id), .p (iT s.rev), .p (iT s.kind), .p (sT s.node), .p (sT s.grade), .p (iT s.thick), .p (.sl false (rowsOf s.outer)), .bs (st.n + 1 + 1) 0 H.length, .p (sT s.section_), .p (iT s.length), .p (iT s.mass), .p (iT s.c1), .p (iT s.c2), .p (iT s.c3), .p (iT s.a1), .p (iT s.a2), .p (iT s.a3), .p (iT s.turn)]]) ∧
              x.σ (st.n + 1 + 1) = some (.rows (mixed_ H j))) H.length ⟨0, by simp, by simp, by simp [upd_apply, h4], by simp [upd_apply], by simp [upd_apply, ← hH], by simp [upd_apply, ← hH], by simp [upd_apply], by simp [upd_apply, n1, hb1], by simp [upd_apply, ← hH], by simp [upd_apply, mixed_zero, ← hH, encH]⟩ ?_
          rintro m x ⟨j, hj, rfl, x4, x7, x35, x36, x37, y1, yn, yK⟩
          (repeat (first | refine W_nil ?_ | (refine W_u fun N hN => ?_; simp [stepU, stepG, putQ, guardD, isQuiet, qv, nv, ev, stripS, strip, putS, upd_apply, st0, lenD, binD, binV, intBin, strBin, unD, indexAddrD, indexD, loadD, fieldD, fieldValD, partD, pickD, extractD, buildD, fillD, splice, mkAgg, allT, toT, D.cells, D.leaf, Value.cells, Value.oneCell', varBox, storeD, buildSliceD, pureRow, mkFn, convD, mmD, mmV, sliceD, bndD, okHead, calleeD, callD, Env.get, Env.getF, callF, frz, T.flat, appendD, rowsX, widthOk, rangeD, nextD, goInt, x35, x36, x37]; refine hN _ ?_; clear hN N) | (refine W_g rfl fun N hN => ?_; simp [stepU, stepG, putQ, guardD, isQuiet, qv, nv, ev, stripS, strip, putS, upd_apply, st0, lenD, binD, binV, intBin, strBin, unD, indexAddrD, indexD, loadD, fieldD, fieldValD, partD, pickD, extractD, buildD, fillD, splice, mkAgg, allT, toT, D.cells, D.leaf, Value.cells, Value.oneCell', varBox, storeD, buildSliceD, pureRow, mkFn, convD, mmD, mmV, sliceD, bndD, okHead, calleeD, callD, Env.get, Env.getF, callF, frz, T.flat, appendD, rowsX, widthOk, rangeD, nextD, goInt, x35, x36, x37]; refine hN _ ?_; clear hN N) | refine W_assoc ?_ | refine W_sskip ?_ | refine W_skip ?_ | refine W_sblock ?_ | refine W_block ?_ | refine W_sret ?_ | refine W_ret ?_ | refine W_sexit ?_ | refine W_exit ?_ | refine W_sreg (by first | exact .inl rfl | exact .inr (by kernel_rfl)) ?_ | refine W_reg (by first | exact .inl rfl | exact .inr (by kernel_rfl)) ?_))
          (first | (refine W_scond fun A B hA hB => ?_) | (refine W_cond fun A B hA hB => ?_)); simp [ev, stripS, strip, upd_apply]; refine condQ_bool (fun hc => hA ?_) (fun hc => hB ?_) <;> clear hA hB A B
          · have hj2 : j < H.length := by simpa using hc
            have hg := mixed_get H j hj2
            have hs' := mixed_set H j hj2
            have hml := mixed_length H j
            have hcl := listOkC_clone (hhok H[j] (List.getElem_mem hj2))
            obtain ⟨_, _, hHl, hHc⟩ := listOkC_spec (hhok H[j] (List.getElem_mem hj2))
            generalize H[j] = x0 at *
            (repeat (first | refine W_nil ?_ | (refine W_u fun N hN => ?_; simp [stepU, stepG, putQ, guardD, isQuiet, qv, nv, ev, stripS, strip, putS, upd_apply, st0, lenD, binD, binV, intBin, strBin, unD, indexAddrD, indexD, loadD, fieldD, fieldValD, partD, pickD, extractD, buildD, fillD, splice, mkAgg, allT, toT, D.cells, D.leaf, Value.cells, Value.oneCell', varBox, storeD, buildSliceD, pureRow, mkFn, convD, mmD, mmV, sliceD, bndD, okHead, calleeD, callD, Env.get, Env.getF, callF, frz, T.flat, appendD, rowsX, widthOk, rangeD, nextD, goInt, x7, x35, x36, x37, yn, yK, hg, hj2, hcl, hs', hHl, hHc]; refine hN _ ?_; clear hN N) | (refine W_g rfl fun N hN => ?_; simp [stepU, stepG, putQ, guardD, isQuiet, qv, nv, ev, stripS, strip, putS, upd_apply, st0, lenD, binD, binV, intBin, strBin, unD, indexAddrD, indexD, loadD, fieldD, fieldValD, partD, pickD, extractD, buildD, fillD, splice, mkAgg, allT, toT, D.cells, D.leaf, Value.cells, Value.oneCell', varBox, storeD, buildSliceD, pureRow, mkFn, convD, mmD, mmV, sliceD, bndD, okHead, calleeD, callD, Env.get, Env.getF, callF, frz, T.flat, appendD, rowsX, widthOk, rangeD, nextD, goInt, x7, x35, x36, x37, yn, yK, hg, hj2, hcl, hs', hHl, hHc]; refine hN _ ?_; clear hN N) | refine W_assoc ?_ | refine W_sskip ?_ | refine W_skip ?_ | refine W_sblock ?_ | refine W_block ?_ | refine W_sret ?_ | refine W_ret ?_ | refine W_sexit ?_ | refine W_exit ?_ | refine W_sreg (by first | exact .inl rfl | exact .inr (by kernel_rfl)) ?_ | refine W_reg (by first | exact .inl rfl | exact .inr (by kernel_rfl)) ?_))
            refine ⟨H.length - (j + 1), by omega, j + 1, by omega, rfl, by simp [upd_apply, x4], by simp [upd_apply, x7], by simp [upd_apply, x35], by simp [upd_apply, x36], ?_, by simp [upd_apply, y1], by simp [upd_apply, yn], by simp [upd_apply]⟩
            simp [upd_apply]
            exact wrap_id _ (by omega) (by omega)
          · have hjl : j = H.length := by simp at hc; omega
            subst hjl
            rw [mixed_end] at yK
            (repeat (first | refine W_nil ?_ | (refine W_u fun N hN => ?_; simp [stepU, stepG, putQ, guardD, isQuiet, qv, nv, ev, stripS, strip, putS, upd_apply, st0, lenD, binD, binV, intBin, strBin, unD, indexAddrD, indexD, loadD, fieldD, fieldValD, partD, pickD, extractD, buildD, fillD, splice, mkAgg, allT, toT, D.cells, D.leaf, Value.cells, Value.oneCell', varBox, storeD, buildSliceD, pureRow, mkFn, convD, mmD, mmV, sliceD, bndD, okHead, calleeD, callD, Env.get, Env.getF, callF, frz, T.flat, appendD, rowsX, widthOk, rangeD, nextD, goInt, x4, x7, y1, yn, noPartD]; refine hN _ ?_; clear hN N) | (refine W_g rfl fun N hN => ?_; simp [stepU, stepG, putQ, guardD, isQuiet, qv, nv, ev, stripS, strip, putS, upd_apply, st0, lenD, binD, binV, intBin, strBin, unD, indexAddrD, indexD, loadD, fieldD, fieldValD, partD, pickD, extractD, buildD, fillD, splice, mkAgg, allT, toT, D.cells, D.leaf, Value.cells, Value.oneCell', varBox, storeD, buildSliceD, pureRow, mkFn, convD, mmD, mmV, sliceD, bndD, okHead, calleeD, callD, Env.get, Env.getF, callF, frz, T.flat, appendD, rowsX, widthOk, rangeD, nextD, goInt, x4, x7, y1, yn, noPartD]; refine hN _ ?_; clear hN N) | refine W_assoc ?_ | refine W_sskip ?_ | refine W_skip ?_ | refine W_sblock ?_ | refine W_block ?_ | refine W_sret ?_ | refine W_ret ?_ | refine W_sexit ?_ | refine W_exit ?_ | refine W_sreg (by first | exact .inl rfl | exact .inr (by kernel_rfl)) ?_ | refine W_reg (by first | exact .inl rfl | exact .inr (by kernel_rfl)) ?_))
            refine ⟨by simp, ?_⟩
            simp [resD, resL, loadD, frz, strip, upd_apply, T.canon, mkAgg, allT, toT, ← hno, copyT, encPart', hhs, x4, n1, n2, yK, frz_mixed, frz_mixed']
      · rw [hc] at hno
        (repeat (first | refine W_nil ?_ | (refine W_u fun N hN => ?_; simp [stepU, stepG, putQ, guardD, isQuiet, qv, nv, ev, stripS, strip, putS, upd_apply, st0, lenD, binD, binV, intBin, strBin, unD, indexAddrD, indexD, loadD, fieldD, fieldValD, partD, pickD, extractD, buildD, fillD, splice, mkAgg, allT, toT, D.cells, D.leaf, Value.cells, Value.oneCell', varBox, storeD, buildSliceD, pureRow, mkFn, convD, mmD, mmV, sliceD, bndD, okHead, calleeD, callD, Env.get, Env.getF, callF, frz, T.flat, appendD, rowsX, widthOk, rangeD, nextD, goInt, h13]; refine hN _ ?_; clear hN N) | (refine W_g rfl fun N hN => ?_; simp [stepU, stepG, putQ, guardD, isQuiet, qv, nv, ev, stripS, strip, putS, upd_apply, st0, lenD, binD, binV, intBin, strBin, unD, indexAddrD, indexD, loadD, fieldD, fieldValD, partD, pickD, extractD, buildD, fillD, splice, mkAgg, allT, toT, D.cells, D.leaf, Value.cells, Value.oneCell', varBox, storeD, buildSliceD, pureRow, mkFn, convD, mmD, mmV, sliceD, bndD, okHead, calleeD, callD, Env.get, Env.getF, callF, frz, T.flat, appendD, rowsX, widthOk, rangeD, nextD, goInt, h13]; refine hN _ ?_; clear hN N) | refine W_assoc ?_ | refine W_sskip ?_ | refine W_skip ?_ | refine W_sblock ?_ | refine W_block ?_ | refine W_sret ?_ | refine W_ret ?_ | refine W_sexit ?_ | refine W_exit ?_ | refine W_sreg (by first | exact .inl rfl | exact .inr (by kernel_rfl)) ?_ | refine W_reg (by first | exact .inl rfl | exact .inr (by kernel_rfl)) ?_))
        refine ⟨l.length - (k + 1), by omega, k + 1, by omega, rfl, by first | (simp; done) | omega, by simp [upd_apply, h1], by simp [upd_apply, h4], by simp [upd_apply, n1, hb1], by simp [upd_apply, h5], by simp [upd_apply, h11], by simp [upd_apply, h12], ?_, hno⟩
        simp [upd_apply]
        exact wrap_id _ (by omega) (by omega)
    · have hkl : k = l.length := by simp at hc; omega
      rw [hkl] at hno
      simp only [List.drop_length, List.find?_nil] at hno
      (repeat (first | refine W_nil ?_ | (refine W_u fun N hN => ?_; simp [stepU, stepG, putQ, guardD, isQuiet, qv, nv, ev, stripS, strip, putS, upd_apply, st0, lenD, binD, binV, intBin, strBin, unD, indexAddrD, indexD, loadD, fieldD, fieldValD, partD, pickD, extractD, buildD, fillD, splice, mkAgg, allT, toT, D.cells, D.leaf, Value.cells, Value.oneCell', varBox, storeD, buildSliceD, pureRow, mkFn, convD, mmD, mmV, sliceD, bndD, okHead, calleeD, callD, Env.get, Env.getF, callF, frz, T.flat, appendD, rowsX, widthOk, rangeD, nextD, goInt, h4, hb1]; refine hN _ ?_; clear hN N) | (refine W_g rfl fun N hN => ?_; simp [stepU, stepG, putQ, guardD, isQuiet, qv, nv, ev, stripS, strip, putS, upd_apply, st0, lenD, binD, binV, intBin, strBin, unD, indexAddrD, indexD, loadD, fieldD, fieldValD, partD, pickD, extractD, buildD, fillD, splice, mkAgg, allT, toT, D.cells, D.leaf, Value.cells, Value.oneCell', varBox, storeD, buildSliceD, pureRow, mkFn, convD, mmD, mmV, sliceD, bndD, okHead, calleeD, callD, Env.get, Env.getF, callF, frz, T.flat, appendD, rowsX, widthOk, rangeD, nextD, goInt, h4, hb1]; refine hN _ ?_; clear hN N) | refine W_assoc ?_ | refine W_sskip ?_ | refine W_skip ?_ | refine W_sblock ?_ | refine W_block ?_ | refine W_sret ?_ | refine W_ret ?_ | refine W_sexit ?_ | refine W_exit ?_ | refine W_sreg (by first | exact .inl rfl | exact .inr (by kernel_rfl)) ?_ | refine W_reg (by first | exact .inl rfl | exact .inr (by kernel_rfl)) ?_))
      refine ⟨by simp, ?_⟩
      simp [resD, resL, loadD, frz, strip, upd_apply, T.canon, mkAgg, allT, toT, ← hno, noPart, noPartD, h4, h5, hb1]
  · cases h
end Go.Pv
