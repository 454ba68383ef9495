/-
  Words: what stands ahead of a place. No condition.
-/
import Derived.Test.YtaepgkghgcchnaaWordsT
set_option linter.unusedVariables false
set_option linter.unusedSimpArgs false
namespace Go.Pe
open Go Go.Am Go.RowKit

def extL : FuncId → Option (List PV → Option PV) := fun f => if f = 7 then some gNext else if f = 11 then some gCount else if f = 12 then some gPick else if f = 9 then some gAwake else none
noncomputable def extL2 : FuncId → Option (List PV → Option PV) := fun f => if f = 10 then some gIs else if f = 15 then some gNot else extL f
noncomputable def cfgL : Cfg := { fn := fun f => lookT f tblL, ext := extL2 }
theorem hxL_ne : cfgL.ext 7 = some gNext := rfl
theorem hxL_ct : cfgL.ext 11 = some gCount := rfl
theorem hxL_pi : cfgL.ext 12 = some gPick := rfl
theorem hxL_aw : cfgL.ext 9 = some gAwake := rfl
theorem hxL_is : cfgL.ext 10 = some gIs := rfl
theorem hxL_no : cfgL.ext 15 = some gNot := rfl
theorem hxL_ah : cfgL.ext 5 = none := rfl
theorem hfL_ah : cfgL.fn 5 = some m5 := by kernel_rfl
theorem call_awake (fuel : Nat) (st : St) (key : Nat) : callStep (runPure cfgL (evFn cfgL fuel) 9) false st key [] = some (.b true, st) := callStep_flat rfl (by rw [runPure_ext hxL_aw]; rfl) rfl
theorem cnt_le (l : List UInt8) : cntS 10 l 0 ≤ l.length := by
  rw [cntS_eq]
  have := List.count_le_length (a := (10 : UInt8)) (l := l)
  omega
theorem lineOf_le (l : List UInt8) (a : Nat) : 1 ≤ lineOf l a ∧ lineOf l a ≤ l.length + 1 := by
  unfold lineOf
  have := cnt_le (l.take a)
  simp only [List.length_take] at this
  omega
theorem nextD_len {d : List UInt8} {k : Int} {s : List UInt8} {n : Int} {l : Nat} (h : nextD d = some (k, s, n, l)) : pass false d + l ≤ d.length := by
  have hp := pass_le false d
  unfold nextD at h
  split at h
  · simp at h; omega
  · have := (tokD_len h).1
    have h2 := endL_le (d.drop (pass false d))
    simp only [List.length_drop] at h2
    omega
set_option maxHeartbeats 4000000 in
theorem ahead_ev (text ahead : List UInt8) (at0 : Int) : ∃ fuel, evP cfgL fuel 5 [.s text, .s ahead, .i .i64 at0] = some (.b true) := by
  refine ⟨0 + 1, evP_of hxL_ah rfl ?_⟩
  refine evFn_W hfL_ah ?_
  unfold m5
  by_cases h1 : ((text.length : Nat) : Int) > Int.ofNat 1000
  · simp only [putArgs, ↓WC_seq, ↓WC_region, ↓WC_block, ↓WC_scope, ↓WC_skip, ↓WC_exit, ↓WC_ret, ↓WC_cond', ↓WO_cons, ↓WO_guard', ↓WO_nil, ↓WG_tt, ↓WG_tf, ↓WG_ft, ↓WG_ff, ↓WB_t, ↓WB_f, ↓WG_tup, ↓WI_true, ↓WI_false, ↓WV_some, ↓WV_none, ↓WV_ite, ↓WV_get, ↓WV_map_ite, ↓WV_mv, ↓WV_pick, ↓WV_alloc, ↓WV_box, ↓WV_build, ↓WV_bslice, ↓WV_load, ↓WV_store, ↓WV_nilck, ↓WV_bin, ↓WV_eqb, ↓WV_eqn, ↓WV_eqs, ↓WV_mkmap, ↓WV_lookup, ↓WV_mapup, ↓WV_mlen, ↓WV_srange, ↓WV_snext, ↓WV_mark, ↓WV_bad, ↓WV_un, ↓WV_conv, ↓WV_mkfn, ↓WV_mkbfn, ↓WV_mkslice, ↓WV_slice0, ↓WV_slice1, ↓WV_substr, ↓WV_fieldAddr, ↓WV_field, ↓WV_indexAddr0, ↓WV_indexAddr1, ↓WV_index, ↓WV_sindex, ↓WV_extract, ↓WV_call, ↓WV_calle, ↓WV_callq, ↓WV_callv, ↓WV_append, ↓WV_appstr, ↓WV_len, ↓WV_slen, ↓WV_alen, ↓WV_copy, ↓WV_min, ↓WV_max, WC_region, WC_cond', WO_cons, WO_guard', WO_nil, WG_tt, WG_tf, WG_ft, WG_ff, WB_t, WB_f, WB_b, WG_tup, WI_true, WI_false, WV_some, WV_ite, rd_t, rd_l, rd_c, wr_t, wr_l, wr_no, thenQ_nrm, thenQ_ex, thenQ_ret, blockQ_nrm, blockQ_ex, blockQ_ret, Env.get_put, Env.get_leaf, Nat.reduceAdd, Nat.reduceMul, Nat.reduceLT, Nat.reduceEqDiff, reduceIte, List.length_cons, List.length_nil, Nat.add_assoc, binP, ne_eq, not_true_eq_false, map_some, decide_eq_true_eq, decide_true, decide_false, WV_get, ofCells, Bool.false_eq_true, Int.toNat_natCast, and_true, true_and, Bool.not_true, Bool.not_false, Option.map_none, List.map_cons, List.map_nil, bound_none, eq_self_iff_true, Bool.true_eq_false, load_ptr, loadC_cells, load_fptr, store_ptr, storeC_cells, get_putM, get_putN, get_cntS, get_leaf, cnt_putM, cnt_mkM, cells_agg, cells_i, cells_b, cells_s, cells_nsl, cells_fsl, cells_rsl, cells_ptr, cells_mp, one_i, one_b, one_s, one_nsl, one_fsl, one_rsl, one_ptr, one_mp, one_nptr, one_nmp, cut_ite, fillP_nil, fillP_cons, eqs_nil, eqs_cons, eqC_true, eqC_false, eq1O_some, eq1_i, eq1_b, eq1_s, List.take_succ_cons, List.take_zero, List.drop_succ_cons, List.drop_zero, List.cons_append, List.nil_append, List.append_nil, List.all_cons, List.all_nil, Bool.and_self, Bool.and_true, Bool.true_and, Nat.zero_add, Nat.add_zero, Nat.reduceLeDiff, Nat.le_refl, List.getElem?_cons_zero, List.getElem?_cons_succ, Nat.add_left_cancel_iff, Nat.left_eq_add, Nat.add_eq_left, not_false_eq_true, bne_tf, bne_ff, bne_tt, bne_ft, h1, call_awake]
    refine ⟨nofun, _, rfl, ?_⟩
    simp only [tupV, ↓WC_seq, ↓WC_region, ↓WC_block, ↓WC_scope, ↓WC_skip, ↓WC_exit, ↓WC_ret, ↓WC_cond', ↓WO_cons, ↓WO_guard', ↓WO_nil, ↓WG_tt, ↓WG_tf, ↓WG_ft, ↓WG_ff, ↓WB_t, ↓WB_f, ↓WG_tup, ↓WI_true, ↓WI_false, ↓WV_some, ↓WV_none, ↓WV_ite, ↓WV_get, ↓WV_map_ite, ↓WV_mv, ↓WV_pick, ↓WV_alloc, ↓WV_box, ↓WV_build, ↓WV_bslice, ↓WV_load, ↓WV_store, ↓WV_nilck, ↓WV_bin, ↓WV_eqb, ↓WV_eqn, ↓WV_eqs, ↓WV_mkmap, ↓WV_lookup, ↓WV_mapup, ↓WV_mlen, ↓WV_srange, ↓WV_snext, ↓WV_mark, ↓WV_bad, ↓WV_un, ↓WV_conv, ↓WV_mkfn, ↓WV_mkbfn, ↓WV_mkslice, ↓WV_slice0, ↓WV_slice1, ↓WV_substr, ↓WV_fieldAddr, ↓WV_field, ↓WV_indexAddr0, ↓WV_indexAddr1, ↓WV_index, ↓WV_sindex, ↓WV_extract, ↓WV_call, ↓WV_calle, ↓WV_callq, ↓WV_callv, ↓WV_append, ↓WV_appstr, ↓WV_len, ↓WV_slen, ↓WV_alen, ↓WV_copy, ↓WV_min, ↓WV_max, WC_region, WC_cond', WO_cons, WO_guard', WO_nil, WG_tt, WG_tf, WG_ft, WG_ff, WB_t, WB_f, WB_b, WG_tup, WI_true, WI_false, WV_some, WV_ite, rd_t, rd_l, rd_c, wr_t, wr_l, wr_no, thenQ_nrm, thenQ_ex, thenQ_ret, blockQ_nrm, blockQ_ex, blockQ_ret, Env.get_put, Env.get_leaf, Nat.reduceAdd, Nat.reduceMul, Nat.reduceLT, Nat.reduceEqDiff, reduceIte, List.length_cons, List.length_nil, Nat.add_assoc, binP, ne_eq, not_true_eq_false, map_some, decide_eq_true_eq, decide_true, decide_false, WV_get, ofCells, Bool.false_eq_true, Int.toNat_natCast, and_true, true_and, Bool.not_true, Bool.not_false, Option.map_none, List.map_cons, List.map_nil, bound_none, eq_self_iff_true, Bool.true_eq_false]
    rfl
  by_cases h2 : ((ahead.length : Nat) : Int) > Int.ofNat 1000
  · simp only [putArgs, ↓WC_seq, ↓WC_region, ↓WC_block, ↓WC_scope, ↓WC_skip, ↓WC_exit, ↓WC_ret, ↓WC_cond', ↓WO_cons, ↓WO_guard', ↓WO_nil, ↓WG_tt, ↓WG_tf, ↓WG_ft, ↓WG_ff, ↓WB_t, ↓WB_f, ↓WG_tup, ↓WI_true, ↓WI_false, ↓WV_some, ↓WV_none, ↓WV_ite, ↓WV_get, ↓WV_map_ite, ↓WV_mv, ↓WV_pick, ↓WV_alloc, ↓WV_box, ↓WV_build, ↓WV_bslice, ↓WV_load, ↓WV_store, ↓WV_nilck, ↓WV_bin, ↓WV_eqb, ↓WV_eqn, ↓WV_eqs, ↓WV_mkmap, ↓WV_lookup, ↓WV_mapup, ↓WV_mlen, ↓WV_srange, ↓WV_snext, ↓WV_mark, ↓WV_bad, ↓WV_un, ↓WV_conv, ↓WV_mkfn, ↓WV_mkbfn, ↓WV_mkslice, ↓WV_slice0, ↓WV_slice1, ↓WV_substr, ↓WV_fieldAddr, ↓WV_field, ↓WV_indexAddr0, ↓WV_indexAddr1, ↓WV_index, ↓WV_sindex, ↓WV_extract, ↓WV_call, ↓WV_calle, ↓WV_callq, ↓WV_callv, ↓WV_append, ↓WV_appstr, ↓WV_len, ↓WV_slen, ↓WV_alen, ↓WV_copy, ↓WV_min, ↓WV_max, WC_region, WC_cond', WO_cons, WO_guard', WO_nil, WG_tt, WG_tf, WG_ft, WG_ff, WB_t, WB_f, WB_b, WG_tup, WI_true, WI_false, WV_some, WV_ite, rd_t, rd_l, rd_c, wr_t, wr_l, wr_no, thenQ_nrm, thenQ_ex, thenQ_ret, blockQ_nrm, blockQ_ex, blockQ_ret, Env.get_put, Env.get_leaf, Nat.reduceAdd, Nat.reduceMul, Nat.reduceLT, Nat.reduceEqDiff, reduceIte, List.length_cons, List.length_nil, Nat.add_assoc, binP, ne_eq, not_true_eq_false, map_some, decide_eq_true_eq, decide_true, decide_false, WV_get, ofCells, Bool.false_eq_true, Int.toNat_natCast, and_true, true_and, Bool.not_true, Bool.not_false, Option.map_none, List.map_cons, List.map_nil, bound_none, eq_self_iff_true, Bool.true_eq_false, load_ptr, loadC_cells, load_fptr, store_ptr, storeC_cells, get_putM, get_putN, get_cntS, get_leaf, cnt_putM, cnt_mkM, cells_agg, cells_i, cells_b, cells_s, cells_nsl, cells_fsl, cells_rsl, cells_ptr, cells_mp, one_i, one_b, one_s, one_nsl, one_fsl, one_rsl, one_ptr, one_mp, one_nptr, one_nmp, cut_ite, fillP_nil, fillP_cons, eqs_nil, eqs_cons, eqC_true, eqC_false, eq1O_some, eq1_i, eq1_b, eq1_s, List.take_succ_cons, List.take_zero, List.drop_succ_cons, List.drop_zero, List.cons_append, List.nil_append, List.append_nil, List.all_cons, List.all_nil, Bool.and_self, Bool.and_true, Bool.true_and, Nat.zero_add, Nat.add_zero, Nat.reduceLeDiff, Nat.le_refl, List.getElem?_cons_zero, List.getElem?_cons_succ, Nat.add_left_cancel_iff, Nat.left_eq_add, Nat.add_eq_left, not_false_eq_true, bne_tf, bne_ff, bne_tt, bne_ft, h1, h2, call_awake]
    refine ⟨nofun, _, rfl, ?_⟩
    simp only [tupV, ↓WC_seq, ↓WC_region, ↓WC_block, ↓WC_scope, ↓WC_skip, ↓WC_exit, ↓WC_ret, ↓WC_cond', ↓WO_cons, ↓WO_guard', ↓WO_nil, ↓WG_tt, ↓WG_tf, ↓WG_ft, ↓WG_ff, ↓WB_t, ↓WB_f, ↓WG_tup, ↓WI_true, ↓WI_false, ↓WV_some, ↓WV_none, ↓WV_ite, ↓WV_get, ↓WV_map_ite, ↓WV_mv, ↓WV_pick, ↓WV_alloc, ↓WV_box, ↓WV_build, ↓WV_bslice, ↓WV_load, ↓WV_store, ↓WV_nilck, ↓WV_bin, ↓WV_eqb, ↓WV_eqn, ↓WV_eqs, ↓WV_mkmap, ↓WV_lookup, ↓WV_mapup, ↓WV_mlen, ↓WV_srange, ↓WV_snext, ↓WV_mark, ↓WV_bad, ↓WV_un, ↓WV_conv, ↓WV_mkfn, ↓WV_mkbfn, ↓WV_mkslice, ↓WV_slice0, ↓WV_slice1, ↓WV_substr, ↓WV_fieldAddr, ↓WV_field, ↓WV_indexAddr0, ↓WV_indexAddr1, ↓WV_index, ↓WV_sindex, ↓WV_extract, ↓WV_call, ↓WV_calle, ↓WV_callq, ↓WV_callv, ↓WV_append, ↓WV_appstr, ↓WV_len, ↓WV_slen, ↓WV_alen, ↓WV_copy, ↓WV_min, ↓WV_max, WC_region, WC_cond', WO_cons, WO_guard', WO_nil, WG_tt, WG_tf, WG_ft, WG_ff, WB_t, WB_f, WB_b, WG_tup, WI_true, WI_false, WV_some, WV_ite, rd_t, rd_l, rd_c, wr_t, wr_l, wr_no, thenQ_nrm, thenQ_ex, thenQ_ret, blockQ_nrm, blockQ_ex, blockQ_ret, Env.get_put, Env.get_leaf, Nat.reduceAdd, Nat.reduceMul, Nat.reduceLT, Nat.reduceEqDiff, reduceIte, List.length_cons, List.length_nil, Nat.add_assoc, binP, ne_eq, not_true_eq_false, map_some, decide_eq_true_eq, decide_true, decide_false, WV_get, ofCells, Bool.false_eq_true, Int.toNat_natCast, and_true, true_and, Bool.not_true, Bool.not_false, Option.map_none, List.map_cons, List.map_nil, bound_none, eq_self_iff_true, Bool.true_eq_false]
    rfl
  have l1 : text.length ≤ 1000 := by have : ¬ ((text.length : Nat) : Int) > 1000 := h1; omega
  have l2 : ahead.length ≤ 1000 := by have : ¬ ((ahead.length : Nat) : Int) > 1000 := h2; omega
  have hw1 : IntKind.i64.wrap ((text.length : Int) + Int.ofNat 1) = (text.length : Int) + 1 := wr_i64 _ ⟨by show _ ≤ (text.length : Int) + 1; omega, by show (text.length : Int) + 1 < _; omega⟩
  obtain ⟨k, hk, hkl⟩ : ∃ k : Nat, pickL at0 ((text.length : Int) + 1) = k ∧ k ≤ text.length := by
    have := pickL_lt (x := at0) (n := (text.length : Int) + 1) (by omega)
    exact ⟨(pickL at0 ((text.length : Int) + 1)).toNat, by omega, by omega⟩
  have hpick : ∀ (st : St) (key : Nat), callStep (runPure cfgL (evFn cfgL 0) 12) false st key [.i .i64 at0, .i .i64 ((text.length : Int) + 1)] = some (.i .i64 k, st) := by
    intro st key
    refine callStep_flat rfl ?_ rfl
    rw [runPure_ext hxL_pi]
    unfold gPick
    simp only [hk]
    rw [if_pos (by omega)]
  have hw2 : IntKind.i64.wrap ((ahead.length : Int) + (k : Int)) = ((ahead.length + k : Nat) : Int) := by rw [wr_i64 _ (by omega)]; simp
  have hpl := pass_le false (text.drop k)
  simp only [List.length_drop] at hpl
  have hln := lineOf_le text (k + pass false (text.drop k))
  have hcl := cnt_le ahead
  have hnl := fun kd s n l => @nextD_len (text.drop k) kd s n l
  have g1 : gNext [.s text, .i .i64 k] = some (nextR text k) := by
    unfold gNext
    simp only [Int.toNat_natCast]
    rw [if_neg (by omega), if_neg (by omega)]
  have g2 : gNext [.s (ahead ++ text), .i .i64 ((ahead.length + k : Nat) : Int)] = some (nextR (ahead ++ text) (ahead.length + k)) := by
    unfold gNext
    simp only [Int.toNat_natCast, List.length_append]
    rw [if_neg (by omega), if_neg (by omega)]
  rw [nextR_eq hkl] at g1
  rw [nextR_ahead hkl] at g2
  have hcnt : ∀ (st : St) (key : Nat), callStep (runPure cfgL (evFn cfgL 0) 11) false st key [.s ahead, .s [10]] = some (.i .i64 (cntS 10 ahead 0), st) := by
    intro st key
    exact callStep_flat rfl (by rw [runPure_ext hxL_ct]; rfl) rfl
  have hadd : ahead.length + text.length < 9223372036854775807 := by omega
  generalize lineOf text (k + pass false (text.drop k)) = line at *
  have hal : k + pass false (text.drop k) ≤ text.length := by omega
  generalize hga : k + pass false (text.drop k) = a at *
  have hw3 : IntKind.i64.wrap (line + (cntS 10 ahead 0 : Int)) = line + (cntS 10 ahead 0 : Int) := wr_i64 _ (by omega)
  cases hD : nextD (text.drop k) with
  | none =>
    rw [hD] at g1 g2
    have c1 : ∀ (st : St) (key : Nat), callStep (runPure cfgL (evFn cfgL 0) 7) false st key [.s text, .i .i64 k] = some (.tup [.agg [.i .u8 0, .s [], .i .i64 0, .i .i64 0, .i .i64 0, .i .i64 0], .agg [.i .i64 100, .i .i64 line]], st) := by
      intro st key
      exact callStep_flat rfl (by rw [runPure_ext hxL_ne]; exact g1) rfl
    have c2 : ∀ (st : St) (key : Nat), callStep (runPure cfgL (evFn cfgL 0) 7) false st key [.s (ahead ++ text), .i .i64 ((ahead.length + k : Nat) : Int)] = some (.tup [.agg [.i .u8 0, .s [], .i .i64 0, .i .i64 0, .i .i64 0, .i .i64 0], .agg [.i .i64 100, .i .i64 (line + (cntS 10 ahead 0 : Int))]], st) := by
      intro st key
      exact callStep_flat rfl (by rw [runPure_ext hxL_ne]; exact g2) rfl
    simp only [putArgs, ↓WC_seq, ↓WC_region, ↓WC_block, ↓WC_scope, ↓WC_skip, ↓WC_exit, ↓WC_ret, ↓WC_cond', ↓WO_cons, ↓WO_guard', ↓WO_nil, ↓WG_tt, ↓WG_tf, ↓WG_ft, ↓WG_ff, ↓WB_t, ↓WB_f, ↓WG_tup, ↓WI_true, ↓WI_false, ↓WV_some, ↓WV_none, ↓WV_ite, ↓WV_get, ↓WV_map_ite, ↓WV_mv, ↓WV_pick, ↓WV_alloc, ↓WV_box, ↓WV_build, ↓WV_bslice, ↓WV_load, ↓WV_store, ↓WV_nilck, ↓WV_bin, ↓WV_eqb, ↓WV_eqn, ↓WV_eqs, ↓WV_mkmap, ↓WV_lookup, ↓WV_mapup, ↓WV_mlen, ↓WV_srange, ↓WV_snext, ↓WV_mark, ↓WV_bad, ↓WV_un, ↓WV_conv, ↓WV_mkfn, ↓WV_mkbfn, ↓WV_mkslice, ↓WV_slice0, ↓WV_slice1, ↓WV_substr, ↓WV_fieldAddr, ↓WV_field, ↓WV_indexAddr0, ↓WV_indexAddr1, ↓WV_index, ↓WV_sindex, ↓WV_extract, ↓WV_call, ↓WV_calle, ↓WV_callq, ↓WV_callv, ↓WV_append, ↓WV_appstr, ↓WV_len, ↓WV_slen, ↓WV_alen, ↓WV_copy, ↓WV_min, ↓WV_max, WC_region, WC_cond', WO_cons, WO_guard', WO_nil, WG_tt, WG_tf, WG_ft, WG_ff, WB_t, WB_f, WB_b, WG_tup, WI_true, WI_false, WV_some, WV_ite, rd_t, rd_l, rd_c, wr_t, wr_l, wr_no, thenQ_nrm, thenQ_ex, thenQ_ret, blockQ_nrm, blockQ_ex, blockQ_ret, Env.get_put, Env.get_leaf, Nat.reduceAdd, Nat.reduceMul, Nat.reduceLT, Nat.reduceEqDiff, reduceIte, List.length_cons, List.length_nil, Nat.add_assoc, binP, ne_eq, not_true_eq_false, map_some, decide_eq_true_eq, decide_true, decide_false, WV_get, ofCells, Bool.false_eq_true, Int.toNat_natCast, and_true, true_and, Bool.not_true, Bool.not_false, Option.map_none, List.map_cons, List.map_nil, bound_none, eq_self_iff_true, Bool.true_eq_false, load_ptr, loadC_cells, load_fptr, store_ptr, storeC_cells, get_putM, get_putN, get_cntS, get_leaf, cnt_putM, cnt_mkM, cells_agg, cells_i, cells_b, cells_s, cells_nsl, cells_fsl, cells_rsl, cells_ptr, cells_mp, one_i, one_b, one_s, one_nsl, one_fsl, one_rsl, one_ptr, one_mp, one_nptr, one_nmp, cut_ite, fillP_nil, fillP_cons, eqs_nil, eqs_cons, eqC_true, eqC_false, eq1O_some, eq1_i, eq1_b, eq1_s, List.take_succ_cons, List.take_zero, List.drop_succ_cons, List.drop_zero, List.cons_append, List.nil_append, List.append_nil, List.all_cons, List.all_nil, Bool.and_self, Bool.and_true, Bool.true_and, Nat.zero_add, Nat.add_zero, Nat.reduceLeDiff, Nat.le_refl, List.getElem?_cons_zero, List.getElem?_cons_succ, Nat.add_left_cancel_iff, Nat.left_eq_add, Nat.add_eq_left, not_false_eq_true, bne_tf, bne_ff, bne_tt, bne_ft, h1, h2, hw1, hpick, c1, hw2, hadd, c2, hcnt, show ((100 : Int) != Int.ofNat 0) = true from rfl, hw3, beq_self_eq_true, call_awake]
    refine ⟨nofun, _, rfl, ?_⟩
    simp only [tupV, ↓WC_seq, ↓WC_region, ↓WC_block, ↓WC_scope, ↓WC_skip, ↓WC_exit, ↓WC_ret, ↓WC_cond', ↓WO_cons, ↓WO_guard', ↓WO_nil, ↓WG_tt, ↓WG_tf, ↓WG_ft, ↓WG_ff, ↓WB_t, ↓WB_f, ↓WG_tup, ↓WI_true, ↓WI_false, ↓WV_some, ↓WV_none, ↓WV_ite, ↓WV_get, ↓WV_map_ite, ↓WV_mv, ↓WV_pick, ↓WV_alloc, ↓WV_box, ↓WV_build, ↓WV_bslice, ↓WV_load, ↓WV_store, ↓WV_nilck, ↓WV_bin, ↓WV_eqb, ↓WV_eqn, ↓WV_eqs, ↓WV_mkmap, ↓WV_lookup, ↓WV_mapup, ↓WV_mlen, ↓WV_srange, ↓WV_snext, ↓WV_mark, ↓WV_bad, ↓WV_un, ↓WV_conv, ↓WV_mkfn, ↓WV_mkbfn, ↓WV_mkslice, ↓WV_slice0, ↓WV_slice1, ↓WV_substr, ↓WV_fieldAddr, ↓WV_field, ↓WV_indexAddr0, ↓WV_indexAddr1, ↓WV_index, ↓WV_sindex, ↓WV_extract, ↓WV_call, ↓WV_calle, ↓WV_callq, ↓WV_callv, ↓WV_append, ↓WV_appstr, ↓WV_len, ↓WV_slen, ↓WV_alen, ↓WV_copy, ↓WV_min, ↓WV_max, WC_region, WC_cond', WO_cons, WO_guard', WO_nil, WG_tt, WG_tf, WG_ft, WG_ff, WB_t, WB_f, WB_b, WG_tup, WI_true, WI_false, WV_some, WV_ite, rd_t, rd_l, rd_c, wr_t, wr_l, wr_no, thenQ_nrm, thenQ_ex, thenQ_ret, blockQ_nrm, blockQ_ex, blockQ_ret, Env.get_put, Env.get_leaf, Nat.reduceAdd, Nat.reduceMul, Nat.reduceLT, Nat.reduceEqDiff, reduceIte, List.length_cons, List.length_nil, Nat.add_assoc, binP, ne_eq, not_true_eq_false, map_some, decide_eq_true_eq, decide_true, decide_false, WV_get, ofCells, Bool.false_eq_true, Int.toNat_natCast, and_true, true_and, Bool.not_true, Bool.not_false, Option.map_none, List.map_cons, List.map_nil, bound_none, eq_self_iff_true, Bool.true_eq_false]
    rfl
  | some x =>
    obtain ⟨kd, s, n, l⟩ := x
    rw [hD] at g1 g2
    have hl := hnl kd s n l hD
    simp only [List.length_drop] at hl
    have c1 : ∀ (st : St) (key : Nat), callStep (runPure cfgL (evFn cfgL 0) 7) false st key [.s text, .i .i64 k] = some (.tup [.agg [.i .u8 kd, .s s, .i .i64 n, .i .i64 line, .i .i64 (a : Int), .i .i64 ((a + l : Nat) : Int)], .agg [.i .i64 0, .i .i64 0]], st) := by
      intro st key
      exact callStep_flat rfl (by rw [runPure_ext hxL_ne]; exact g1) rfl
    have c2 : ∀ (st : St) (key : Nat), callStep (runPure cfgL (evFn cfgL 0) 7) false st key [.s (ahead ++ text), .i .i64 ((ahead.length + k : Nat) : Int)] = some (.tup [.agg [.i .u8 kd, .s s, .i .i64 n, .i .i64 (line + (cntS 10 ahead 0 : Int)), .i .i64 ((ahead.length + a : Nat) : Int), .i .i64 ((ahead.length + a + l : Nat) : Int)], .agg [.i .i64 0, .i .i64 0]], st) := by
      intro st key
      exact callStep_flat rfl (by rw [runPure_ext hxL_ne]; exact g2) rfl
    have hwA : IntKind.i64.wrap ((a : Int) + (ahead.length : Int)) = ((ahead.length + a : Nat) : Int) := by rw [wr_i64 _ (by omega)]; omega
    have hwE : IntKind.i64.wrap (((a + l : Nat) : Int) + (ahead.length : Int)) = ((ahead.length + (a + l) : Nat) : Int) := by rw [wr_i64 _ (by omega)]; omega
    simp only [putArgs, ↓WC_seq, ↓WC_region, ↓WC_block, ↓WC_scope, ↓WC_skip, ↓WC_exit, ↓WC_ret, ↓WC_cond', ↓WO_cons, ↓WO_guard', ↓WO_nil, ↓WG_tt, ↓WG_tf, ↓WG_ft, ↓WG_ff, ↓WB_t, ↓WB_f, ↓WG_tup, ↓WI_true, ↓WI_false, ↓WV_some, ↓WV_none, ↓WV_ite, ↓WV_get, ↓WV_map_ite, ↓WV_mv, ↓WV_pick, ↓WV_alloc, ↓WV_box, ↓WV_build, ↓WV_bslice, ↓WV_load, ↓WV_store, ↓WV_nilck, ↓WV_bin, ↓WV_eqb, ↓WV_eqn, ↓WV_eqs, ↓WV_mkmap, ↓WV_lookup, ↓WV_mapup, ↓WV_mlen, ↓WV_srange, ↓WV_snext, ↓WV_mark, ↓WV_bad, ↓WV_un, ↓WV_conv, ↓WV_mkfn, ↓WV_mkbfn, ↓WV_mkslice, ↓WV_slice0, ↓WV_slice1, ↓WV_substr, ↓WV_fieldAddr, ↓WV_field, ↓WV_indexAddr0, ↓WV_indexAddr1, ↓WV_index, ↓WV_sindex, ↓WV_extract, ↓WV_call, ↓WV_calle, ↓WV_callq, ↓WV_callv, ↓WV_append, ↓WV_appstr, ↓WV_len, ↓WV_slen, ↓WV_alen, ↓WV_copy, ↓WV_min, ↓WV_max, WC_region, WC_cond', WO_cons, WO_guard', WO_nil, WG_tt, WG_tf, WG_ft, WG_ff, WB_t, WB_f, WB_b, WG_tup, WI_true, WI_false, WV_some, WV_ite, rd_t, rd_l, rd_c, wr_t, wr_l, wr_no, thenQ_nrm, thenQ_ex, thenQ_ret, blockQ_nrm, blockQ_ex, blockQ_ret, Env.get_put, Env.get_leaf, Nat.reduceAdd, Nat.reduceMul, Nat.reduceLT, Nat.reduceEqDiff, reduceIte, List.length_cons, List.length_nil, Nat.add_assoc, binP, ne_eq, not_true_eq_false, map_some, decide_eq_true_eq, decide_true, decide_false, WV_get, ofCells, Bool.false_eq_true, Int.toNat_natCast, and_true, true_and, Bool.not_true, Bool.not_false, Option.map_none, List.map_cons, List.map_nil, bound_none, eq_self_iff_true, Bool.true_eq_false, load_ptr, loadC_cells, load_fptr, store_ptr, storeC_cells, get_putM, get_putN, get_cntS, get_leaf, cnt_putM, cnt_mkM, cells_agg, cells_i, cells_b, cells_s, cells_nsl, cells_fsl, cells_rsl, cells_ptr, cells_mp, one_i, one_b, one_s, one_nsl, one_fsl, one_rsl, one_ptr, one_mp, one_nptr, one_nmp, cut_ite, fillP_nil, fillP_cons, eqs_nil, eqs_cons, eqC_true, eqC_false, eq1O_some, eq1_i, eq1_b, eq1_s, List.take_succ_cons, List.take_zero, List.drop_succ_cons, List.drop_zero, List.cons_append, List.nil_append, List.append_nil, List.all_cons, List.all_nil, Bool.and_self, Bool.and_true, Bool.true_and, Nat.zero_add, Nat.add_zero, Nat.reduceLeDiff, Nat.le_refl, List.getElem?_cons_zero, List.getElem?_cons_succ, Nat.add_left_cancel_iff, Nat.left_eq_add, Nat.add_eq_left, not_false_eq_true, bne_tf, bne_ff, bne_tt, bne_ft, h1, h2, hw1, hpick, c1, hw2, hadd, c2, hcnt, show ((0 : Int) != Int.ofNat 0) = false from rfl, show ((0 : Int) == (0 : Int)) = true from rfl, hw3, hwA, hwE, beq_self_eq_true, call_awake]
    refine ⟨nofun, _, rfl, ?_⟩
    simp only [tupV, ↓WC_seq, ↓WC_region, ↓WC_block, ↓WC_scope, ↓WC_skip, ↓WC_exit, ↓WC_ret, ↓WC_cond', ↓WO_cons, ↓WO_guard', ↓WO_nil, ↓WG_tt, ↓WG_tf, ↓WG_ft, ↓WG_ff, ↓WB_t, ↓WB_f, ↓WG_tup, ↓WI_true, ↓WI_false, ↓WV_some, ↓WV_none, ↓WV_ite, ↓WV_get, ↓WV_map_ite, ↓WV_mv, ↓WV_pick, ↓WV_alloc, ↓WV_box, ↓WV_build, ↓WV_bslice, ↓WV_load, ↓WV_store, ↓WV_nilck, ↓WV_bin, ↓WV_eqb, ↓WV_eqn, ↓WV_eqs, ↓WV_mkmap, ↓WV_lookup, ↓WV_mapup, ↓WV_mlen, ↓WV_srange, ↓WV_snext, ↓WV_mark, ↓WV_bad, ↓WV_un, ↓WV_conv, ↓WV_mkfn, ↓WV_mkbfn, ↓WV_mkslice, ↓WV_slice0, ↓WV_slice1, ↓WV_substr, ↓WV_fieldAddr, ↓WV_field, ↓WV_indexAddr0, ↓WV_indexAddr1, ↓WV_index, ↓WV_sindex, ↓WV_extract, ↓WV_call, ↓WV_calle, ↓WV_callq, ↓WV_callv, ↓WV_append, ↓WV_appstr, ↓WV_len, ↓WV_slen, ↓WV_alen, ↓WV_copy, ↓WV_min, ↓WV_max, WC_region, WC_cond', WO_cons, WO_guard', WO_nil, WG_tt, WG_tf, WG_ft, WG_ff, WB_t, WB_f, WB_b, WG_tup, WI_true, WI_false, WV_some, WV_ite, rd_t, rd_l, rd_c, wr_t, wr_l, wr_no, thenQ_nrm, thenQ_ex, thenQ_ret, blockQ_nrm, blockQ_ex, blockQ_ret, Env.get_put, Env.get_leaf, Nat.reduceAdd, Nat.reduceMul, Nat.reduceLT, Nat.reduceEqDiff, reduceIte, List.length_cons, List.length_nil, Nat.add_assoc, binP, ne_eq, not_true_eq_false, map_some, decide_eq_true_eq, decide_true, decide_false, WV_get, ofCells, Bool.false_eq_true, Int.toNat_natCast, and_true, true_and, Bool.not_true, Bool.not_false, Option.map_none, List.map_cons, List.map_nil, bound_none, eq_self_iff_true, Bool.true_eq_false]
    rfl
end Go.Pe
