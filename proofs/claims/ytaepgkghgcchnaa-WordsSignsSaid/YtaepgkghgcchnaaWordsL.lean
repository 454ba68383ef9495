/-
  Words: the law of signs, by the interpreter of plain data. No condition.
-/
import Derived.Test.YtaepgkghgcchnaaWordsK
set_option linter.unusedVariables false
set_option linter.unusedSimpArgs false
namespace Go.Pe
open Go Go.Am Go.RowKit

set_option maxHeartbeats 4000000 in
theorem prefix1_ev {cfg : Cfg} (hf : cfg.fn 27 = some m27) {fuel : Nat} {a b : List UInt8} (ha : a.length ≤ 16384) (hb : b.length ≤ 16384) {st : St} :
    ∃ r st', evFn cfg (fuel + 1) 27 [.s a, .s b] st = some (r, st') ∧ r = .b (b.isPrefixOf a) := by
  refine evFn_W hf ?_
  unfold m27
  by_cases hl : b.length ≤ a.length
  · have h1 : ((a.length : Nat) : Int) ≥ ((b.length : Nat) : Int) := by omega
    have b1 : bound (some (.i .i64 (b.length : Int))) a.length a.length = some b.length := bound_ok ⟨by omega, by omega⟩
    have e : (List.take b.length a == b) = b.isPrefixOf a := by
      rw [Bool.eq_iff_iff, beq_iff_eq, List.isPrefixOf_iff_prefix, List.prefix_iff_eq_take]
      exact ⟨fun h => h.symm, fun h => h.symm⟩
    simp only [putArgs, ↓WC_seq, ↓WC_region, ↓WC_block, ↓WC_scope, ↓WC_skip, ↓WC_exit, ↓WC_ret, ↓WC_cond', ↓WO_cons, ↓WO_guard', ↓WO_nil, ↓WG_tt, ↓WG_tf, ↓WG_ft, ↓WG_ff, ↓WB_t, ↓WB_f, ↓WG_tup, ↓WI_true, ↓WI_false, ↓WV_some, ↓WV_none, ↓WV_ite, ↓WV_get, ↓WV_map_ite, ↓WV_mv, ↓WV_pick, ↓WV_alloc, ↓WV_box, ↓WV_build, ↓WV_bslice, ↓WV_load, ↓WV_store, ↓WV_nilck, ↓WV_bin, ↓WV_eqb, ↓WV_eqn, ↓WV_eqs, ↓WV_mkmap, ↓WV_lookup, ↓WV_mapup, ↓WV_mlen, ↓WV_srange, ↓WV_snext, ↓WV_mark, ↓WV_bad, ↓WV_un, ↓WV_conv, ↓WV_mkfn, ↓WV_mkbfn, ↓WV_mkslice, ↓WV_slice0, ↓WV_slice1, ↓WV_substr, ↓WV_fieldAddr, ↓WV_field, ↓WV_indexAddr0, ↓WV_indexAddr1, ↓WV_index, ↓WV_sindex, ↓WV_extract, ↓WV_call, ↓WV_calle, ↓WV_callq, ↓WV_callv, ↓WV_append, ↓WV_appstr, ↓WV_len, ↓WV_slen, ↓WV_alen, ↓WV_copy, ↓WV_min, ↓WV_max, WC_region, WC_cond', WO_cons, WO_guard', WO_nil, WG_tt, WG_tf, WG_ft, WG_ff, WB_t, WB_f, WB_b, WG_tup, WI_true, WI_false, WV_some, WV_ite, rd_t, rd_l, rd_c, wr_t, wr_l, wr_no, thenQ_nrm, thenQ_ex, thenQ_ret, blockQ_nrm, blockQ_ex, blockQ_ret, Env.get_put, Env.get_leaf, Nat.reduceAdd, Nat.reduceMul, Nat.reduceLT, Nat.reduceEqDiff, reduceIte, List.length_cons, List.length_nil, Nat.add_assoc, binP, ne_eq, not_true_eq_false, map_some, decide_eq_true_eq, decide_true, decide_false, WV_get, ofCells, Bool.false_eq_true, Int.toNat_natCast, and_true, true_and, Bool.not_true, Bool.not_false, Option.map_none, List.map_cons, List.map_nil, bound_none, eq_self_iff_true, Bool.true_eq_false, load_ptr, loadC_cells, load_fptr, store_ptr, storeC_cells, get_putM, get_putN, get_cntS, get_leaf, cnt_putM, cnt_mkM, cells_agg, cells_i, cells_b, cells_s, cells_nsl, cells_fsl, cells_rsl, cells_ptr, cells_mp, one_i, one_b, one_s, one_nsl, one_fsl, one_rsl, one_ptr, one_mp, one_nptr, one_nmp, cut_ite, fillP_nil, fillP_cons, eqs_nil, eqs_cons, eqC_true, eqC_false, eq1O_some, eq1_i, eq1_b, eq1_s, List.take_succ_cons, List.take_zero, List.drop_succ_cons, List.drop_zero, List.cons_append, List.nil_append, List.append_nil, List.all_cons, List.all_nil, Bool.and_self, Bool.and_true, Bool.true_and, Nat.zero_add, Nat.add_zero, Nat.reduceLeDiff, Nat.le_refl, List.getElem?_cons_zero, List.getElem?_cons_succ, Nat.add_left_cancel_iff, Nat.left_eq_add, Nat.add_eq_left, not_false_eq_true, bne_tf, bne_ff, bne_tt, bne_ft, h1, b1, Nat.sub_zero, e]
    refine ⟨nofun, _, rfl, ?_⟩
    simp only [tupV, ↓WC_seq, ↓WC_region, ↓WC_block, ↓WC_scope, ↓WC_skip, ↓WC_exit, ↓WC_ret, ↓WC_cond', ↓WO_cons, ↓WO_guard', ↓WO_nil, ↓WG_tt, ↓WG_tf, ↓WG_ft, ↓WG_ff, ↓WB_t, ↓WB_f, ↓WG_tup, ↓WI_true, ↓WI_false, ↓WV_some, ↓WV_none, ↓WV_ite, ↓WV_get, ↓WV_map_ite, ↓WV_mv, ↓WV_pick, ↓WV_alloc, ↓WV_box, ↓WV_build, ↓WV_bslice, ↓WV_load, ↓WV_store, ↓WV_nilck, ↓WV_bin, ↓WV_eqb, ↓WV_eqn, ↓WV_eqs, ↓WV_mkmap, ↓WV_lookup, ↓WV_mapup, ↓WV_mlen, ↓WV_srange, ↓WV_snext, ↓WV_mark, ↓WV_bad, ↓WV_un, ↓WV_conv, ↓WV_mkfn, ↓WV_mkbfn, ↓WV_mkslice, ↓WV_slice0, ↓WV_slice1, ↓WV_substr, ↓WV_fieldAddr, ↓WV_field, ↓WV_indexAddr0, ↓WV_indexAddr1, ↓WV_index, ↓WV_sindex, ↓WV_extract, ↓WV_call, ↓WV_calle, ↓WV_callq, ↓WV_callv, ↓WV_append, ↓WV_appstr, ↓WV_len, ↓WV_slen, ↓WV_alen, ↓WV_copy, ↓WV_min, ↓WV_max, WC_region, WC_cond', WO_cons, WO_guard', WO_nil, WG_tt, WG_tf, WG_ft, WG_ff, WB_t, WB_f, WB_b, WG_tup, WI_true, WI_false, WV_some, WV_ite, rd_t, rd_l, rd_c, wr_t, wr_l, wr_no, thenQ_nrm, thenQ_ex, thenQ_ret, blockQ_nrm, blockQ_ex, blockQ_ret, Env.get_put, Env.get_leaf, Nat.reduceAdd, Nat.reduceMul, Nat.reduceLT, Nat.reduceEqDiff, reduceIte, List.length_cons, List.length_nil, Nat.add_assoc, binP, ne_eq, not_true_eq_false, map_some, decide_eq_true_eq, decide_true, decide_false, WV_get, ofCells, Bool.false_eq_true, Int.toNat_natCast, and_true, true_and, Bool.not_true, Bool.not_false, Option.map_none, List.map_cons, List.map_nil, bound_none, eq_self_iff_true, Bool.true_eq_false]
  · have h1 : ¬ ((a.length : Nat) : Int) ≥ ((b.length : Nat) : Int) := by omega
    have e : b.isPrefixOf a = false := by
      rw [Bool.eq_false_iff, ne_eq, List.isPrefixOf_iff_prefix]
      intro h
      exact hl h.length_le
    simp only [putArgs, ↓WC_seq, ↓WC_region, ↓WC_block, ↓WC_scope, ↓WC_skip, ↓WC_exit, ↓WC_ret, ↓WC_cond', ↓WO_cons, ↓WO_guard', ↓WO_nil, ↓WG_tt, ↓WG_tf, ↓WG_ft, ↓WG_ff, ↓WB_t, ↓WB_f, ↓WG_tup, ↓WI_true, ↓WI_false, ↓WV_some, ↓WV_none, ↓WV_ite, ↓WV_get, ↓WV_map_ite, ↓WV_mv, ↓WV_pick, ↓WV_alloc, ↓WV_box, ↓WV_build, ↓WV_bslice, ↓WV_load, ↓WV_store, ↓WV_nilck, ↓WV_bin, ↓WV_eqb, ↓WV_eqn, ↓WV_eqs, ↓WV_mkmap, ↓WV_lookup, ↓WV_mapup, ↓WV_mlen, ↓WV_srange, ↓WV_snext, ↓WV_mark, ↓WV_bad, ↓WV_un, ↓WV_conv, ↓WV_mkfn, ↓WV_mkbfn, ↓WV_mkslice, ↓WV_slice0, ↓WV_slice1, ↓WV_substr, ↓WV_fieldAddr, ↓WV_field, ↓WV_indexAddr0, ↓WV_indexAddr1, ↓WV_index, ↓WV_sindex, ↓WV_extract, ↓WV_call, ↓WV_calle, ↓WV_callq, ↓WV_callv, ↓WV_append, ↓WV_appstr, ↓WV_len, ↓WV_slen, ↓WV_alen, ↓WV_copy, ↓WV_min, ↓WV_max, WC_region, WC_cond', WO_cons, WO_guard', WO_nil, WG_tt, WG_tf, WG_ft, WG_ff, WB_t, WB_f, WB_b, WG_tup, WI_true, WI_false, WV_some, WV_ite, rd_t, rd_l, rd_c, wr_t, wr_l, wr_no, thenQ_nrm, thenQ_ex, thenQ_ret, blockQ_nrm, blockQ_ex, blockQ_ret, Env.get_put, Env.get_leaf, Nat.reduceAdd, Nat.reduceMul, Nat.reduceLT, Nat.reduceEqDiff, reduceIte, List.length_cons, List.length_nil, Nat.add_assoc, binP, ne_eq, not_true_eq_false, map_some, decide_eq_true_eq, decide_true, decide_false, WV_get, ofCells, Bool.false_eq_true, Int.toNat_natCast, and_true, true_and, Bool.not_true, Bool.not_false, Option.map_none, List.map_cons, List.map_nil, bound_none, eq_self_iff_true, Bool.true_eq_false, load_ptr, loadC_cells, load_fptr, store_ptr, storeC_cells, get_putM, get_putN, get_cntS, get_leaf, cnt_putM, cnt_mkM, cells_agg, cells_i, cells_b, cells_s, cells_nsl, cells_fsl, cells_rsl, cells_ptr, cells_mp, one_i, one_b, one_s, one_nsl, one_fsl, one_rsl, one_ptr, one_mp, one_nptr, one_nmp, cut_ite, fillP_nil, fillP_cons, eqs_nil, eqs_cons, eqC_true, eqC_false, eq1O_some, eq1_i, eq1_b, eq1_s, List.take_succ_cons, List.take_zero, List.drop_succ_cons, List.drop_zero, List.cons_append, List.nil_append, List.append_nil, List.all_cons, List.all_nil, Bool.and_self, Bool.and_true, Bool.true_and, Nat.zero_add, Nat.add_zero, Nat.reduceLeDiff, Nat.le_refl, List.getElem?_cons_zero, List.getElem?_cons_succ, Nat.add_left_cancel_iff, Nat.left_eq_add, Nat.add_eq_left, not_false_eq_true, bne_tf, bne_ff, bne_tt, bne_ft, h1, e]
    refine ⟨nofun, _, rfl, ?_⟩
    simp only [tupV, ↓WC_seq, ↓WC_region, ↓WC_block, ↓WC_scope, ↓WC_skip, ↓WC_exit, ↓WC_ret, ↓WC_cond', ↓WO_cons, ↓WO_guard', ↓WO_nil, ↓WG_tt, ↓WG_tf, ↓WG_ft, ↓WG_ff, ↓WB_t, ↓WB_f, ↓WG_tup, ↓WI_true, ↓WI_false, ↓WV_some, ↓WV_none, ↓WV_ite, ↓WV_get, ↓WV_map_ite, ↓WV_mv, ↓WV_pick, ↓WV_alloc, ↓WV_box, ↓WV_build, ↓WV_bslice, ↓WV_load, ↓WV_store, ↓WV_nilck, ↓WV_bin, ↓WV_eqb, ↓WV_eqn, ↓WV_eqs, ↓WV_mkmap, ↓WV_lookup, ↓WV_mapup, ↓WV_mlen, ↓WV_srange, ↓WV_snext, ↓WV_mark, ↓WV_bad, ↓WV_un, ↓WV_conv, ↓WV_mkfn, ↓WV_mkbfn, ↓WV_mkslice, ↓WV_slice0, ↓WV_slice1, ↓WV_substr, ↓WV_fieldAddr, ↓WV_field, ↓WV_indexAddr0, ↓WV_indexAddr1, ↓WV_index, ↓WV_sindex, ↓WV_extract, ↓WV_call, ↓WV_calle, ↓WV_callq, ↓WV_callv, ↓WV_append, ↓WV_appstr, ↓WV_len, ↓WV_slen, ↓WV_alen, ↓WV_copy, ↓WV_min, ↓WV_max, WC_region, WC_cond', WO_cons, WO_guard', WO_nil, WG_tt, WG_tf, WG_ft, WG_ff, WB_t, WB_f, WB_b, WG_tup, WI_true, WI_false, WV_some, WV_ite, rd_t, rd_l, rd_c, wr_t, wr_l, wr_no, thenQ_nrm, thenQ_ex, thenQ_ret, blockQ_nrm, blockQ_ex, blockQ_ret, Env.get_put, Env.get_leaf, Nat.reduceAdd, Nat.reduceMul, Nat.reduceLT, Nat.reduceEqDiff, reduceIte, List.length_cons, List.length_nil, Nat.add_assoc, binP, ne_eq, not_true_eq_false, map_some, decide_eq_true_eq, decide_true, decide_false, WV_get, ofCells, Bool.false_eq_true, Int.toNat_natCast, and_true, true_and, Bool.not_true, Bool.not_false, Option.map_none, List.map_cons, List.map_nil, bound_none, eq_self_iff_true, Bool.true_eq_false]
theorem prefix_any (args : List PV) (r : PV) (h : gPrefix args = some r) : ∃ fuel, evP cfgR0 fuel 27 args = some r := by
  unfold gPrefix at h
  split at h
  · rename_i a b
    split at h
    · rename_i hc
      simp only [Option.some.injEq] at h
      subst h
      exact ⟨0 + 1, ev_flat rfl rfl (fun _ => rfl) (prefix1_ev (cfg := cfgR0) (by kernel_rfl) hc.1 hc.2)⟩
    · simp at h
  · simp at h
def extP : FuncId → Option (List PV → Option PV) := fun f => if f = 27 then some gPrefix else none
noncomputable def cfgP : Cfg := { fn := fun f => lookT f tblL, ext := extP }
theorem hasPrefix_any (args : List PV) (r : PV) (h : gPrefix args = some r) : ∃ fuel, evP cfgP fuel 13 args = some r := by
  have hg := h
  unfold gPrefix at h
  split at h
  · rename_i a b
    split at h
    · rename_i hc
      simp only [Option.some.injEq] at h
      subst h
      refine ⟨0 + 1, ev_flat rfl rfl (fun _ => rfl) (evFn_W (by kernel_rfl : cfgP.fn 13 = some m13) ?_)⟩
      unfold m13
      have c1 : ∀ (st : St) (key : Nat), callStep (runPure cfgP (evFn cfgP 0) 27) false st key [.s a, .s b] = some (.b (b.isPrefixOf a), st) := fun st key => callStep_flat rfl (by rw [runPure_ext (show cfgP.ext 27 = some gPrefix from rfl)]; exact hg) rfl
      simp only [putArgs, ↓WC_seq, ↓WC_region, ↓WC_block, ↓WC_scope, ↓WC_skip, ↓WC_exit, ↓WC_ret, ↓WC_cond', ↓WO_cons, ↓WO_guard', ↓WO_nil, ↓WG_tt, ↓WG_tf, ↓WG_ft, ↓WG_ff, ↓WB_t, ↓WB_f, ↓WG_tup, ↓WI_true, ↓WI_false, ↓WV_some, ↓WV_none, ↓WV_ite, ↓WV_get, ↓WV_map_ite, ↓WV_mv, ↓WV_pick, ↓WV_alloc, ↓WV_box, ↓WV_build, ↓WV_bslice, ↓WV_load, ↓WV_store, ↓WV_nilck, ↓WV_bin, ↓WV_eqb, ↓WV_eqn, ↓WV_eqs, ↓WV_mkmap, ↓WV_lookup, ↓WV_mapup, ↓WV_mlen, ↓WV_srange, ↓WV_snext, ↓WV_mark, ↓WV_bad, ↓WV_un, ↓WV_conv, ↓WV_mkfn, ↓WV_mkbfn, ↓WV_mkslice, ↓WV_slice0, ↓WV_slice1, ↓WV_substr, ↓WV_fieldAddr, ↓WV_field, ↓WV_indexAddr0, ↓WV_indexAddr1, ↓WV_index, ↓WV_sindex, ↓WV_extract, ↓WV_call, ↓WV_calle, ↓WV_callq, ↓WV_callv, ↓WV_append, ↓WV_appstr, ↓WV_len, ↓WV_slen, ↓WV_alen, ↓WV_copy, ↓WV_min, ↓WV_max, WC_region, WC_cond', WO_cons, WO_guard', WO_nil, WG_tt, WG_tf, WG_ft, WG_ff, WB_t, WB_f, WB_b, WG_tup, WI_true, WI_false, WV_some, WV_ite, rd_t, rd_l, rd_c, wr_t, wr_l, wr_no, thenQ_nrm, thenQ_ex, thenQ_ret, blockQ_nrm, blockQ_ex, blockQ_ret, Env.get_put, Env.get_leaf, Nat.reduceAdd, Nat.reduceMul, Nat.reduceLT, Nat.reduceEqDiff, reduceIte, List.length_cons, List.length_nil, Nat.add_assoc, binP, ne_eq, not_true_eq_false, map_some, decide_eq_true_eq, decide_true, decide_false, WV_get, ofCells, Bool.false_eq_true, Int.toNat_natCast, and_true, true_and, Bool.not_true, Bool.not_false, Option.map_none, List.map_cons, List.map_nil, bound_none, eq_self_iff_true, Bool.true_eq_false, load_ptr, loadC_cells, load_fptr, store_ptr, storeC_cells, get_putM, get_putN, get_cntS, get_leaf, cnt_putM, cnt_mkM, cells_agg, cells_i, cells_b, cells_s, cells_nsl, cells_fsl, cells_rsl, cells_ptr, cells_mp, one_i, one_b, one_s, one_nsl, one_fsl, one_rsl, one_ptr, one_mp, one_nptr, one_nmp, cut_ite, fillP_nil, fillP_cons, eqs_nil, eqs_cons, eqC_true, eqC_false, eq1O_some, eq1_i, eq1_b, eq1_s, List.take_succ_cons, List.take_zero, List.drop_succ_cons, List.drop_zero, List.cons_append, List.nil_append, List.append_nil, List.all_cons, List.all_nil, Bool.and_self, Bool.and_true, Bool.true_and, Nat.zero_add, Nat.add_zero, Nat.reduceLeDiff, Nat.le_refl, List.getElem?_cons_zero, List.getElem?_cons_succ, Nat.add_left_cancel_iff, Nat.left_eq_add, Nat.add_eq_left, not_false_eq_true, bne_tf, bne_ff, bne_tt, bne_ft, c1]
      refine ⟨nofun, _, rfl, ?_⟩
      simp only [tupV, ↓WC_seq, ↓WC_region, ↓WC_block, ↓WC_scope, ↓WC_skip, ↓WC_exit, ↓WC_ret, ↓WC_cond', ↓WO_cons, ↓WO_guard', ↓WO_nil, ↓WG_tt, ↓WG_tf, ↓WG_ft, ↓WG_ff, ↓WB_t, ↓WB_f, ↓WG_tup, ↓WI_true, ↓WI_false, ↓WV_some, ↓WV_none, ↓WV_ite, ↓WV_get, ↓WV_map_ite, ↓WV_mv, ↓WV_pick, ↓WV_alloc, ↓WV_box, ↓WV_build, ↓WV_bslice, ↓WV_load, ↓WV_store, ↓WV_nilck, ↓WV_bin, ↓WV_eqb, ↓WV_eqn, ↓WV_eqs, ↓WV_mkmap, ↓WV_lookup, ↓WV_mapup, ↓WV_mlen, ↓WV_srange, ↓WV_snext, ↓WV_mark, ↓WV_bad, ↓WV_un, ↓WV_conv, ↓WV_mkfn, ↓WV_mkbfn, ↓WV_mkslice, ↓WV_slice0, ↓WV_slice1, ↓WV_substr, ↓WV_fieldAddr, ↓WV_field, ↓WV_indexAddr0, ↓WV_indexAddr1, ↓WV_index, ↓WV_sindex, ↓WV_extract, ↓WV_call, ↓WV_calle, ↓WV_callq, ↓WV_callv, ↓WV_append, ↓WV_appstr, ↓WV_len, ↓WV_slen, ↓WV_alen, ↓WV_copy, ↓WV_min, ↓WV_max, WC_region, WC_cond', WO_cons, WO_guard', WO_nil, WG_tt, WG_tf, WG_ft, WG_ff, WB_t, WB_f, WB_b, WG_tup, WI_true, WI_false, WV_some, WV_ite, rd_t, rd_l, rd_c, wr_t, wr_l, wr_no, thenQ_nrm, thenQ_ex, thenQ_ret, blockQ_nrm, blockQ_ex, blockQ_ret, Env.get_put, Env.get_leaf, Nat.reduceAdd, Nat.reduceMul, Nat.reduceLT, Nat.reduceEqDiff, reduceIte, List.length_cons, List.length_nil, Nat.add_assoc, binP, ne_eq, not_true_eq_false, map_some, decide_eq_true_eq, decide_true, decide_false, WV_get, ofCells, Bool.false_eq_true, Int.toNat_natCast, and_true, true_and, Bool.not_true, Bool.not_false, Option.map_none, List.map_cons, List.map_nil, bound_none, eq_self_iff_true, Bool.true_eq_false]
    · simp at h
  · simp at h
noncomputable def extS : FuncId → Option (List PV → Option PV) := fun f => if f = 13 then some gPrefix else if f = 14 then some gIndexByte else extL2 f
noncomputable def cfgS : Cfg := { fn := fun f => lookT f tblL, ext := extS }
theorem hxS_pr : cfgS.ext 13 = some gPrefix := rfl
theorem hxS_ib : cfgS.ext 14 = some gIndexByte := rfl
theorem hxS_aw : cfgS.ext 9 = some gAwake := rfl
theorem hxS_is : cfgS.ext 10 = some gIs := rfl
theorem hxS_no : cfgS.ext 15 = some gNot := rfl
theorem hxS_pi : cfgS.ext 12 = some gPick := rfl
theorem hfS_si : cfgS.fn 6 = some m6 := by kernel_rfl
theorem load_map {α : Type} {f : α → PV} {ws : List α} {st : St} {k : Nat} {fz : Bool} (hk : st.get k = some (.cells (ws.map f) fz)) {i : Nat} (hi : i < ws.length) : loadP st 1 (.ptr k (0 + i * 1)) = some [f ws[i]] := by
  unfold loadP
  simp only [hk]
  unfold cut?
  rw [if_pos (by simp; omega)]
  apply congrArg
  apply List.ext_getElem?
  intro j
  cases j with
  | zero => simp [List.getElem?_take, List.getElem?_drop, List.getElem?_map, hi]
  | succ j => simp [List.getElem?_take]
set_option maxHeartbeats 8000000 in
set_option maxRecDepth 100000 in
theorem signs_ev (which : Int) (text : List UInt8) (x : Int) (hx0 : 0 ≤ x) (hx1 : x < 256) : ∃ fuel, evP cfgS fuel 6 [.i .i64 which, .s text, .i .u8 x] = some (.b true) := by
  refine ⟨0 + 1, ev_flat rfl rfl (fun _ => rfl) ?_⟩
  refine evFn_W hfS_si ?_
  unfold m6
  have haw : ∀ (st : St) (key : Nat), callStep (runPure cfgS (evFn cfgS 0) 9) false st key [] = some (.b true, st) := fun st key => callStep_flat rfl (by rw [runPure_ext hxS_aw]; rfl) rfl
  obtain ⟨odd, hodd⟩ : ∃ c : UInt8, x = c.toNat := ⟨UInt8.ofNat x.toNat, by rw [UInt8.toNat_ofNat']; omega⟩
  subst hodd
  obtain ⟨T, hT, hTl⟩ : ∃ T : List UInt8, text.take (min text.length 200) = T ∧ T.length ≤ 200 := ⟨_, rfl, by simp; omega⟩
  have hmin : minP (.i .i64 (text.length : Int)) [.i .i64 (Int.ofNat 200)] = some (.i .i64 ((min text.length 200 : Nat) : Int)) := by
    show some (PV.i .i64 _) = _
    congr 2
    show (if (200 : Int) < (text.length : Int) then (200 : Int) else (text.length : Int)) = _
    split <;> omega
  have hb0 : bound (some (.i .i64 ((min text.length 200 : Nat) : Int))) text.length text.length = some (min text.length 200) := bound_ok ⟨by omega, by omega⟩
  obtain ⟨k, hk, hkl⟩ : ∃ k : Nat, pickL which 11 = k ∧ k < 11 := by
    have := pickL_lt (x := which) (n := 11) (by omega)
    exact ⟨(pickL which 11).toNat, by omega, by omega⟩
  have hpick : ∀ (st : St) (key : Nat), callStep (runPure cfgS (evFn cfgS 0) 12) false st key [.i .i64 which, .i .i64 (Int.ofNat 11)] = some (.i .i64 k, st) := by
    intro st key
    refine callStep_flat rfl ?_ rfl
    rw [runPure_ext hxS_pi]
    show (if (-9223372036854775808 : Int) ≤ 11 ∧ (11 : Int) < 9223372036854775808 then some (PV.i .i64 (pickL which 11)) else none) = _
    rw [hk, if_pos (by omega)]
  -- the sign
  rw [WC_seq]
  simp only [putArgs, ↓WC_region, ↓WC_block, ↓WC_scope, ↓WC_skip, ↓WC_exit, ↓WC_ret, ↓WC_cond', ↓WO_cons, ↓WO_guard', ↓WO_nil, ↓WG_tt, ↓WG_tf, ↓WG_ft, ↓WG_ff, ↓WB_t, ↓WB_f, ↓WG_tup, ↓WI_true, ↓WI_false, ↓WV_some, ↓WV_none, ↓WV_ite, ↓WV_get, ↓WV_map_ite, ↓WV_mv, ↓WV_pick, ↓WV_alloc, ↓WV_box, ↓WV_build, ↓WV_bslice, ↓WV_load, ↓WV_store, ↓WV_nilck, ↓WV_bin, ↓WV_eqb, ↓WV_eqn, ↓WV_eqs, ↓WV_mkmap, ↓WV_lookup, ↓WV_mapup, ↓WV_mlen, ↓WV_srange, ↓WV_snext, ↓WV_mark, ↓WV_bad, ↓WV_un, ↓WV_conv, ↓WV_mkfn, ↓WV_mkbfn, ↓WV_mkslice, ↓WV_slice0, ↓WV_slice1, ↓WV_substr, ↓WV_fieldAddr, ↓WV_field, ↓WV_indexAddr0, ↓WV_indexAddr1, ↓WV_index, ↓WV_sindex, ↓WV_extract, ↓WV_call, ↓WV_calle, ↓WV_callq, ↓WV_callv, ↓WV_append, ↓WV_appstr, ↓WV_len, ↓WV_slen, ↓WV_alen, ↓WV_copy, ↓WV_min, ↓WV_max, WC_region, WC_cond', WO_cons, WO_guard', WO_nil, WG_tt, WG_tf, WG_ft, WG_ff, WB_t, WB_f, WB_b, WG_tup, WI_true, WI_false, WV_some, WV_ite, rd_t, rd_l, rd_c, wr_t, wr_l, wr_no, thenQ_nrm, thenQ_ex, thenQ_ret, blockQ_nrm, blockQ_ex, blockQ_ret, Env.get_put, Env.get_leaf, Nat.reduceAdd, Nat.reduceMul, Nat.reduceLT, Nat.reduceEqDiff, reduceIte, List.length_cons, List.length_nil, Nat.add_assoc, binP, ne_eq, not_true_eq_false, map_some, decide_eq_true_eq, decide_true, decide_false, WV_get, ofCells, Bool.false_eq_true, Int.toNat_natCast, and_true, true_and, Bool.not_true, Bool.not_false, Option.map_none, List.map_cons, List.map_nil, bound_none, eq_self_iff_true, Bool.true_eq_false, load_ptr, loadC_cells, load_fptr, store_ptr, storeC_cells, get_putM, get_putN, get_cntS, get_leaf, cnt_putM, cnt_mkM, cells_agg, cells_i, cells_b, cells_s, cells_nsl, cells_fsl, cells_rsl, cells_ptr, cells_mp, one_i, one_b, one_s, one_nsl, one_fsl, one_rsl, one_ptr, one_mp, one_nptr, one_nmp, cut_ite, fillP_nil, fillP_cons, eqs_nil, eqs_cons, eqC_true, eqC_false, eq1O_some, eq1_i, eq1_b, eq1_s, List.take_succ_cons, List.take_zero, List.drop_succ_cons, List.drop_zero, List.cons_append, List.nil_append, List.append_nil, List.all_cons, List.all_nil, Bool.and_self, Bool.and_true, Bool.true_and, Nat.zero_add, Nat.add_zero, Nat.reduceLeDiff, Nat.le_refl, List.getElem?_cons_zero, List.getElem?_cons_succ, Nat.add_left_cancel_iff, Nat.left_eq_add, Nat.add_eq_left, not_false_eq_true, bne_tf, bne_ff, bne_tt, bne_ft]
  refine WC_cut (fun x => x.env.get 0 = PV.i .i64 which ∧ x.env.get 1 = .s text ∧ x.env.get 2 = PV.i .u8 odd.toNat ∧ ∃ q, x.env.get 7 = .ptr q 0 ∧ x.st.get q = some (.cells (signsL.map PV.s) false)) ?_ ?_
  · simp only [↓WC_seq, ↓WC_region, ↓WC_block, ↓WC_scope, ↓WC_skip, ↓WC_exit, ↓WC_ret, ↓WC_cond', ↓WO_cons, ↓WO_guard', ↓WO_nil, ↓WG_tt, ↓WG_tf, ↓WG_ft, ↓WG_ff, ↓WB_t, ↓WB_f, ↓WG_tup, ↓WI_true, ↓WI_false, ↓WV_some, ↓WV_none, ↓WV_ite, ↓WV_get, ↓WV_map_ite, ↓WV_mv, ↓WV_pick, ↓WV_alloc, ↓WV_box, ↓WV_build, ↓WV_bslice, ↓WV_load, ↓WV_store, ↓WV_nilck, ↓WV_bin, ↓WV_eqb, ↓WV_eqn, ↓WV_eqs, ↓WV_mkmap, ↓WV_lookup, ↓WV_mapup, ↓WV_mlen, ↓WV_srange, ↓WV_snext, ↓WV_mark, ↓WV_bad, ↓WV_un, ↓WV_conv, ↓WV_mkfn, ↓WV_mkbfn, ↓WV_mkslice, ↓WV_slice0, ↓WV_slice1, ↓WV_substr, ↓WV_fieldAddr, ↓WV_field, ↓WV_indexAddr0, ↓WV_indexAddr1, ↓WV_index, ↓WV_sindex, ↓WV_extract, ↓WV_call, ↓WV_calle, ↓WV_callq, ↓WV_callv, ↓WV_append, ↓WV_appstr, ↓WV_len, ↓WV_slen, ↓WV_alen, ↓WV_copy, ↓WV_min, ↓WV_max, WC_region, WC_cond', WO_cons, WO_guard', WO_nil, WG_tt, WG_tf, WG_ft, WG_ff, WB_t, WB_f, WB_b, WG_tup, WI_true, WI_false, WV_some, WV_ite, rd_t, rd_l, rd_c, wr_t, wr_l, wr_no, thenQ_nrm, thenQ_ex, thenQ_ret, blockQ_nrm, blockQ_ex, blockQ_ret, Env.get_put, Env.get_leaf, Nat.reduceAdd, Nat.reduceMul, Nat.reduceLT, Nat.reduceEqDiff, reduceIte, List.length_cons, List.length_nil, Nat.add_assoc, binP, ne_eq, not_true_eq_false, map_some, decide_eq_true_eq, decide_true, decide_false, WV_get, ofCells, Bool.false_eq_true, Int.toNat_natCast, and_true, true_and, Bool.not_true, Bool.not_false, Option.map_none, List.map_cons, List.map_nil, bound_none, eq_self_iff_true, Bool.true_eq_false, load_ptr, loadC_cells, load_fptr, store_ptr, storeC_cells, get_putM, get_putN, get_cntS, get_leaf, cnt_putM, cnt_mkM, cells_agg, cells_i, cells_b, cells_s, cells_nsl, cells_fsl, cells_rsl, cells_ptr, cells_mp, one_i, one_b, one_s, one_nsl, one_fsl, one_rsl, one_ptr, one_mp, one_nptr, one_nmp, cut_ite, fillP_nil, fillP_cons, eqs_nil, eqs_cons, eqC_true, eqC_false, eq1O_some, eq1_i, eq1_b, eq1_s, List.take_succ_cons, List.take_zero, List.drop_succ_cons, List.drop_zero, List.cons_append, List.nil_append, List.append_nil, List.all_cons, List.all_nil, Bool.and_self, Bool.and_true, Bool.true_and, Nat.zero_add, Nat.add_zero, Nat.reduceLeDiff, Nat.le_refl, List.getElem?_cons_zero, List.getElem?_cons_succ, Nat.add_left_cancel_iff, Nat.left_eq_add, Nat.add_eq_left, not_false_eq_true, bne_tf, bne_ff, bne_tt, bne_ft]
    refine ⟨17, rfl, ?_⟩
    rw [get_putM]
    rfl
  rintro ⟨env, st1⟩ ⟨g0, g1, g2, q, g7, hq⟩
  simp only at g0 g1 g2 g7 hq
  have hld : ∀ c, loadP ⟨st1.sto, c⟩ 1 (.ptr q (0 + k * 1)) = some [.s (signsL[k]'hkl)] := fun c => load_map (st := ⟨st1.sto, c⟩) (ws := signsL) hq hkl
  have hmem : signsL[k]'hkl ∈ signsL := List.getElem_mem hkl
  obtain ⟨s, hs⟩ : ∃ s, signsL[k]'hkl = s := ⟨_, rfl⟩
  rw [hs] at hmem
  simp only [hs] at hld
  have hk11 : ((k : Nat) : Int) < ((11 : Nat) : Int) := by omega
  refine WC_cut (fun x => x.env.get 1 = .s text ∧ x.env.get 2 = PV.i .u8 odd.toNat ∧ x.env.get 8 = .s s) ?_ ?_
  · simp only [↓WC_seq, ↓WC_region, ↓WC_block, ↓WC_scope, ↓WC_skip, ↓WC_exit, ↓WC_ret, ↓WC_cond', ↓WO_cons, ↓WO_guard', ↓WO_nil, ↓WG_tt, ↓WG_tf, ↓WG_ft, ↓WG_ff, ↓WB_t, ↓WB_f, ↓WG_tup, ↓WI_true, ↓WI_false, ↓WV_some, ↓WV_none, ↓WV_ite, ↓WV_get, ↓WV_map_ite, ↓WV_mv, ↓WV_pick, ↓WV_alloc, ↓WV_box, ↓WV_build, ↓WV_bslice, ↓WV_load, ↓WV_store, ↓WV_nilck, ↓WV_bin, ↓WV_eqb, ↓WV_eqn, ↓WV_eqs, ↓WV_mkmap, ↓WV_lookup, ↓WV_mapup, ↓WV_mlen, ↓WV_srange, ↓WV_snext, ↓WV_mark, ↓WV_bad, ↓WV_un, ↓WV_conv, ↓WV_mkfn, ↓WV_mkbfn, ↓WV_mkslice, ↓WV_slice0, ↓WV_slice1, ↓WV_substr, ↓WV_fieldAddr, ↓WV_field, ↓WV_indexAddr0, ↓WV_indexAddr1, ↓WV_index, ↓WV_sindex, ↓WV_extract, ↓WV_call, ↓WV_calle, ↓WV_callq, ↓WV_callv, ↓WV_append, ↓WV_appstr, ↓WV_len, ↓WV_slen, ↓WV_alen, ↓WV_copy, ↓WV_min, ↓WV_max, WC_region, WC_cond', WO_cons, WO_guard', WO_nil, WG_tt, WG_tf, WG_ft, WG_ff, WB_t, WB_f, WB_b, WG_tup, WI_true, WI_false, WV_some, WV_ite, rd_t, rd_l, rd_c, wr_t, wr_l, wr_no, thenQ_nrm, thenQ_ex, thenQ_ret, blockQ_nrm, blockQ_ex, blockQ_ret, Env.get_put, Env.get_leaf, Nat.reduceAdd, Nat.reduceMul, Nat.reduceLT, Nat.reduceEqDiff, reduceIte, List.length_cons, List.length_nil, Nat.add_assoc, binP, ne_eq, not_true_eq_false, map_some, decide_eq_true_eq, decide_true, decide_false, WV_get, ofCells, Bool.false_eq_true, Int.toNat_natCast, and_true, true_and, Bool.not_true, Bool.not_false, Option.map_none, List.map_cons, List.map_nil, bound_none, eq_self_iff_true, Bool.true_eq_false, g0, g1, g2, g7, hpick, hk11, hld]
    (repeat' (first | exact True.intro | rfl | assumption | omega | apply And.intro))
  clear g0 g1 g2 g7 hq hld
  rintro ⟨env, st1⟩ ⟨g1, g2, g8⟩
  simp only at g1 g2 g8
  refine WC_cut (fun x => x.env.get 1 = .s T ∧ x.env.get 2 = PV.i .u8 odd.toNat ∧ x.env.get 8 = .s s) ?_ ?_
  · simp only [↓WC_seq, ↓WC_region, ↓WC_block, ↓WC_scope, ↓WC_skip, ↓WC_exit, ↓WC_ret, ↓WC_cond', ↓WO_cons, ↓WO_guard', ↓WO_nil, ↓WG_tt, ↓WG_tf, ↓WG_ft, ↓WG_ff, ↓WB_t, ↓WB_f, ↓WG_tup, ↓WI_true, ↓WI_false, ↓WV_some, ↓WV_none, ↓WV_ite, ↓WV_get, ↓WV_map_ite, ↓WV_mv, ↓WV_pick, ↓WV_alloc, ↓WV_box, ↓WV_build, ↓WV_bslice, ↓WV_load, ↓WV_store, ↓WV_nilck, ↓WV_bin, ↓WV_eqb, ↓WV_eqn, ↓WV_eqs, ↓WV_mkmap, ↓WV_lookup, ↓WV_mapup, ↓WV_mlen, ↓WV_srange, ↓WV_snext, ↓WV_mark, ↓WV_bad, ↓WV_un, ↓WV_conv, ↓WV_mkfn, ↓WV_mkbfn, ↓WV_mkslice, ↓WV_slice0, ↓WV_slice1, ↓WV_substr, ↓WV_fieldAddr, ↓WV_field, ↓WV_indexAddr0, ↓WV_indexAddr1, ↓WV_index, ↓WV_sindex, ↓WV_extract, ↓WV_call, ↓WV_calle, ↓WV_callq, ↓WV_callv, ↓WV_append, ↓WV_appstr, ↓WV_len, ↓WV_slen, ↓WV_alen, ↓WV_copy, ↓WV_min, ↓WV_max, WC_region, WC_cond', WO_cons, WO_guard', WO_nil, WG_tt, WG_tf, WG_ft, WG_ff, WB_t, WB_f, WB_b, WG_tup, WI_true, WI_false, WV_some, WV_ite, rd_t, rd_l, rd_c, wr_t, wr_l, wr_no, thenQ_nrm, thenQ_ex, thenQ_ret, blockQ_nrm, blockQ_ex, blockQ_ret, Env.get_put, Env.get_leaf, Nat.reduceAdd, Nat.reduceMul, Nat.reduceLT, Nat.reduceEqDiff, reduceIte, List.length_cons, List.length_nil, Nat.add_assoc, binP, ne_eq, not_true_eq_false, map_some, decide_eq_true_eq, decide_true, decide_false, WV_get, ofCells, Bool.false_eq_true, Int.toNat_natCast, and_true, true_and, Bool.not_true, Bool.not_false, Option.map_none, List.map_cons, List.map_nil, bound_none, eq_self_iff_true, Bool.true_eq_false, g1, g2, g8, hmin, hb0, List.drop_zero, Nat.sub_zero, hT]
    (repeat' (first | exact True.intro | rfl | assumption | omega | apply And.intro))
  clear g1 g2 g8
  rintro ⟨env, st1⟩ ⟨g1, g2, g8⟩
  simp only at g1 g2 g8
  rw [WC_seq]
  simp only [↓WC_region, ↓WC_block, ↓WC_scope, ↓WC_skip, ↓WC_exit, ↓WC_ret, ↓WC_cond', ↓WO_cons, ↓WO_guard', ↓WO_nil, ↓WG_tt, ↓WG_tf, ↓WG_ft, ↓WG_ff, ↓WB_t, ↓WB_f, ↓WG_tup, ↓WI_true, ↓WI_false, ↓WV_some, ↓WV_none, ↓WV_ite, ↓WV_get, ↓WV_map_ite, ↓WV_mv, ↓WV_pick, ↓WV_alloc, ↓WV_box, ↓WV_build, ↓WV_bslice, ↓WV_load, ↓WV_store, ↓WV_nilck, ↓WV_bin, ↓WV_eqb, ↓WV_eqn, ↓WV_eqs, ↓WV_mkmap, ↓WV_lookup, ↓WV_mapup, ↓WV_mlen, ↓WV_srange, ↓WV_snext, ↓WV_mark, ↓WV_bad, ↓WV_un, ↓WV_conv, ↓WV_mkfn, ↓WV_mkbfn, ↓WV_mkslice, ↓WV_slice0, ↓WV_slice1, ↓WV_substr, ↓WV_fieldAddr, ↓WV_field, ↓WV_indexAddr0, ↓WV_indexAddr1, ↓WV_index, ↓WV_sindex, ↓WV_extract, ↓WV_call, ↓WV_calle, ↓WV_callq, ↓WV_callv, ↓WV_append, ↓WV_appstr, ↓WV_len, ↓WV_slen, ↓WV_alen, ↓WV_copy, ↓WV_min, ↓WV_max, WC_region, WC_cond', WO_cons, WO_guard', WO_nil, WG_tt, WG_tf, WG_ft, WG_ff, WB_t, WB_f, WB_b, WG_tup, WI_true, WI_false, WV_some, WV_ite, rd_t, rd_l, rd_c, wr_t, wr_l, wr_no, thenQ_nrm, thenQ_ex, thenQ_ret, blockQ_nrm, blockQ_ex, blockQ_ret, Env.get_put, Env.get_leaf, Nat.reduceAdd, Nat.reduceMul, Nat.reduceLT, Nat.reduceEqDiff, reduceIte, List.length_cons, List.length_nil, Nat.add_assoc, binP, ne_eq, not_true_eq_false, map_some, decide_eq_true_eq, decide_true, decide_false, WV_get, ofCells, Bool.false_eq_true, Int.toNat_natCast, and_true, true_and, Bool.not_true, Bool.not_false, Option.map_none, List.map_cons, List.map_nil, bound_none, eq_self_iff_true, Bool.true_eq_false, load_ptr, loadC_cells, load_fptr, store_ptr, storeC_cells, get_putM, get_putN, get_cntS, get_leaf, cnt_putM, cnt_mkM, cells_agg, cells_i, cells_b, cells_s, cells_nsl, cells_fsl, cells_rsl, cells_ptr, cells_mp, one_i, one_b, one_s, one_nsl, one_fsl, one_rsl, one_ptr, one_mp, one_nptr, one_nmp, cut_ite, fillP_nil, fillP_cons, eqs_nil, eqs_cons, eqC_true, eqC_false, eq1O_some, eq1_i, eq1_b, eq1_s, List.take_succ_cons, List.take_zero, List.drop_succ_cons, List.drop_zero, List.cons_append, List.nil_append, List.append_nil, List.all_cons, List.all_nil, Bool.and_self, Bool.and_true, Bool.true_and, Nat.zero_add, Nat.add_zero, Nat.reduceLeDiff, Nat.le_refl, List.getElem?_cons_zero, List.getElem?_cons_succ, Nat.add_left_cancel_iff, Nat.left_eq_add, Nat.add_eq_left, not_false_eq_true, bne_tf, bne_ff, bne_tt, bne_ft, g8]
  -- what is wanted
  have hpre : ∀ (st : St) (key : Nat), callStep (runPure cfgS (evFn cfgS 0) 13) false st key [.s T, .s [62]] = some (.b ([62].isPrefixOf T), st) := by
    intro st key
    refine callStep_flat rfl ?_ rfl
    rw [runPure_ext hxS_pr]
    show (if T.length ≤ 16384 ∧ ([62] : List UInt8).length ≤ 16384 then some (PV.b ([62].isPrefixOf T)) else none) = _
    rw [if_pos ⟨by omega, by simp⟩]
  refine WC_cut (fun x => x.env.get 1 = .s T ∧ x.env.get 2 = PV.i .u8 odd.toNat ∧ x.env.get 8 = .s s ∧ x.env.get 9 = .s (wantF s T)) ?_ ?_
  · unfold wantF
    cases h1 : (s == [45]) with
    | false =>
      simp only [↓WC_seq, ↓WC_region, ↓WC_block, ↓WC_scope, ↓WC_skip, ↓WC_exit, ↓WC_ret, ↓WC_cond', ↓WO_cons, ↓WO_guard', ↓WO_nil, ↓WG_tt, ↓WG_tf, ↓WG_ft, ↓WG_ff, ↓WB_t, ↓WB_f, ↓WG_tup, ↓WI_true, ↓WI_false, ↓WV_some, ↓WV_none, ↓WV_ite, ↓WV_get, ↓WV_map_ite, ↓WV_mv, ↓WV_pick, ↓WV_alloc, ↓WV_box, ↓WV_build, ↓WV_bslice, ↓WV_load, ↓WV_store, ↓WV_nilck, ↓WV_bin, ↓WV_eqb, ↓WV_eqn, ↓WV_eqs, ↓WV_mkmap, ↓WV_lookup, ↓WV_mapup, ↓WV_mlen, ↓WV_srange, ↓WV_snext, ↓WV_mark, ↓WV_bad, ↓WV_un, ↓WV_conv, ↓WV_mkfn, ↓WV_mkbfn, ↓WV_mkslice, ↓WV_slice0, ↓WV_slice1, ↓WV_substr, ↓WV_fieldAddr, ↓WV_field, ↓WV_indexAddr0, ↓WV_indexAddr1, ↓WV_index, ↓WV_sindex, ↓WV_extract, ↓WV_call, ↓WV_calle, ↓WV_callq, ↓WV_callv, ↓WV_append, ↓WV_appstr, ↓WV_len, ↓WV_slen, ↓WV_alen, ↓WV_copy, ↓WV_min, ↓WV_max, WC_region, WC_cond', WO_cons, WO_guard', WO_nil, WG_tt, WG_tf, WG_ft, WG_ff, WB_t, WB_f, WB_b, WG_tup, WI_true, WI_false, WV_some, WV_ite, rd_t, rd_l, rd_c, wr_t, wr_l, wr_no, thenQ_nrm, thenQ_ex, thenQ_ret, blockQ_nrm, blockQ_ex, blockQ_ret, Env.get_put, Env.get_leaf, Nat.reduceAdd, Nat.reduceMul, Nat.reduceLT, Nat.reduceEqDiff, reduceIte, List.length_cons, List.length_nil, Nat.add_assoc, binP, ne_eq, not_true_eq_false, map_some, decide_eq_true_eq, decide_true, decide_false, WV_get, ofCells, Bool.false_eq_true, Int.toNat_natCast, and_true, true_and, Bool.not_true, Bool.not_false, Option.map_none, List.map_cons, List.map_nil, bound_none, eq_self_iff_true, Bool.true_eq_false, Env.get_put, g1, g2, g8, h1, Bool.false_and]
      (repeat' (first | exact True.intro | rfl | assumption | omega | apply And.intro))
    | true =>
      cases h2 : ([62].isPrefixOf T) with
      | false =>
        simp only [↓WC_seq, ↓WC_region, ↓WC_block, ↓WC_scope, ↓WC_skip, ↓WC_exit, ↓WC_ret, ↓WC_cond', ↓WO_cons, ↓WO_guard', ↓WO_nil, ↓WG_tt, ↓WG_tf, ↓WG_ft, ↓WG_ff, ↓WB_t, ↓WB_f, ↓WG_tup, ↓WI_true, ↓WI_false, ↓WV_some, ↓WV_none, ↓WV_ite, ↓WV_get, ↓WV_map_ite, ↓WV_mv, ↓WV_pick, ↓WV_alloc, ↓WV_box, ↓WV_build, ↓WV_bslice, ↓WV_load, ↓WV_store, ↓WV_nilck, ↓WV_bin, ↓WV_eqb, ↓WV_eqn, ↓WV_eqs, ↓WV_mkmap, ↓WV_lookup, ↓WV_mapup, ↓WV_mlen, ↓WV_srange, ↓WV_snext, ↓WV_mark, ↓WV_bad, ↓WV_un, ↓WV_conv, ↓WV_mkfn, ↓WV_mkbfn, ↓WV_mkslice, ↓WV_slice0, ↓WV_slice1, ↓WV_substr, ↓WV_fieldAddr, ↓WV_field, ↓WV_indexAddr0, ↓WV_indexAddr1, ↓WV_index, ↓WV_sindex, ↓WV_extract, ↓WV_call, ↓WV_calle, ↓WV_callq, ↓WV_callv, ↓WV_append, ↓WV_appstr, ↓WV_len, ↓WV_slen, ↓WV_alen, ↓WV_copy, ↓WV_min, ↓WV_max, WC_region, WC_cond', WO_cons, WO_guard', WO_nil, WG_tt, WG_tf, WG_ft, WG_ff, WB_t, WB_f, WB_b, WG_tup, WI_true, WI_false, WV_some, WV_ite, rd_t, rd_l, rd_c, wr_t, wr_l, wr_no, thenQ_nrm, thenQ_ex, thenQ_ret, blockQ_nrm, blockQ_ex, blockQ_ret, Env.get_put, Env.get_leaf, Nat.reduceAdd, Nat.reduceMul, Nat.reduceLT, Nat.reduceEqDiff, reduceIte, List.length_cons, List.length_nil, Nat.add_assoc, binP, ne_eq, not_true_eq_false, map_some, decide_eq_true_eq, decide_true, decide_false, WV_get, ofCells, Bool.false_eq_true, Int.toNat_natCast, and_true, true_and, Bool.not_true, Bool.not_false, Option.map_none, List.map_cons, List.map_nil, bound_none, eq_self_iff_true, Bool.true_eq_false, Env.get_put, g1, g2, g8, h1, hpre, h2, Bool.and_false]
        (repeat' (first | exact True.intro | rfl | assumption | omega | apply And.intro))
      | true =>
        simp only [↓WC_seq, ↓WC_region, ↓WC_block, ↓WC_scope, ↓WC_skip, ↓WC_exit, ↓WC_ret, ↓WC_cond', ↓WO_cons, ↓WO_guard', ↓WO_nil, ↓WG_tt, ↓WG_tf, ↓WG_ft, ↓WG_ff, ↓WB_t, ↓WB_f, ↓WG_tup, ↓WI_true, ↓WI_false, ↓WV_some, ↓WV_none, ↓WV_ite, ↓WV_get, ↓WV_map_ite, ↓WV_mv, ↓WV_pick, ↓WV_alloc, ↓WV_box, ↓WV_build, ↓WV_bslice, ↓WV_load, ↓WV_store, ↓WV_nilck, ↓WV_bin, ↓WV_eqb, ↓WV_eqn, ↓WV_eqs, ↓WV_mkmap, ↓WV_lookup, ↓WV_mapup, ↓WV_mlen, ↓WV_srange, ↓WV_snext, ↓WV_mark, ↓WV_bad, ↓WV_un, ↓WV_conv, ↓WV_mkfn, ↓WV_mkbfn, ↓WV_mkslice, ↓WV_slice0, ↓WV_slice1, ↓WV_substr, ↓WV_fieldAddr, ↓WV_field, ↓WV_indexAddr0, ↓WV_indexAddr1, ↓WV_index, ↓WV_sindex, ↓WV_extract, ↓WV_call, ↓WV_calle, ↓WV_callq, ↓WV_callv, ↓WV_append, ↓WV_appstr, ↓WV_len, ↓WV_slen, ↓WV_alen, ↓WV_copy, ↓WV_min, ↓WV_max, WC_region, WC_cond', WO_cons, WO_guard', WO_nil, WG_tt, WG_tf, WG_ft, WG_ff, WB_t, WB_f, WB_b, WG_tup, WI_true, WI_false, WV_some, WV_ite, rd_t, rd_l, rd_c, wr_t, wr_l, wr_no, thenQ_nrm, thenQ_ex, thenQ_ret, blockQ_nrm, blockQ_ex, blockQ_ret, Env.get_put, Env.get_leaf, Nat.reduceAdd, Nat.reduceMul, Nat.reduceLT, Nat.reduceEqDiff, reduceIte, List.length_cons, List.length_nil, Nat.add_assoc, binP, ne_eq, not_true_eq_false, map_some, decide_eq_true_eq, decide_true, decide_false, WV_get, ofCells, Bool.false_eq_true, Int.toNat_natCast, and_true, true_and, Bool.not_true, Bool.not_false, Option.map_none, List.map_cons, List.map_nil, bound_none, eq_self_iff_true, Bool.true_eq_false, Env.get_put, g1, g2, g8, h1, hpre, h2, Bool.and_self]
        (repeat' (first | exact True.intro | rfl | assumption | omega | apply And.intro))
  clear g1 g2 g8
  rintro ⟨env, st1⟩ ⟨g1, g2, g8, g9⟩
  simp only at g1 g2 g8 g9
  have hsl : s.length ≤ 2 := by
    have : (signsL.all fun w => decide (w.length ≤ 2)) = true := by decide
    rw [List.all_eq_true] at this
    simpa using this s hmem
  have hadd : s.length + T.length < 9223372036854775807 := by omega
  have his : ∀ (st : St) (key : Nat), callStep (runPure cfgS (evFn cfgS 0) 10) false st key [.s (s ++ T), .i .i64 (.ofNat 0), .agg [.i .u8 (.ofNat 4), .s (wantF s T), .i .i64 (.ofNat 0), .i .i64 (.ofNat 1), .i .i64 (.ofNat 0), .i .i64 ((wantF s T).length : Int)]] = some (.b true, st) := by
    intro st key
    exact callStep_val rfl rfl (by rw [runPure_ext hxS_is]; exact is_sign hmem (by simp; omega)) rfl
  refine WC_cut (fun x => x.env.get 1 = .s T ∧ x.env.get 2 = PV.i .u8 odd.toNat) ?_ ?_
  · simp only [↓WC_seq, ↓WC_region, ↓WC_block, ↓WC_scope, ↓WC_skip, ↓WC_exit, ↓WC_ret, ↓WC_cond', ↓WO_cons, ↓WO_guard', ↓WO_nil, ↓WG_tt, ↓WG_tf, ↓WG_ft, ↓WG_ff, ↓WB_t, ↓WB_f, ↓WG_tup, ↓WI_true, ↓WI_false, ↓WV_some, ↓WV_none, ↓WV_ite, ↓WV_get, ↓WV_map_ite, ↓WV_mv, ↓WV_pick, ↓WV_alloc, ↓WV_box, ↓WV_build, ↓WV_bslice, ↓WV_load, ↓WV_store, ↓WV_nilck, ↓WV_bin, ↓WV_eqb, ↓WV_eqn, ↓WV_eqs, ↓WV_mkmap, ↓WV_lookup, ↓WV_mapup, ↓WV_mlen, ↓WV_srange, ↓WV_snext, ↓WV_mark, ↓WV_bad, ↓WV_un, ↓WV_conv, ↓WV_mkfn, ↓WV_mkbfn, ↓WV_mkslice, ↓WV_slice0, ↓WV_slice1, ↓WV_substr, ↓WV_fieldAddr, ↓WV_field, ↓WV_indexAddr0, ↓WV_indexAddr1, ↓WV_index, ↓WV_sindex, ↓WV_extract, ↓WV_call, ↓WV_calle, ↓WV_callq, ↓WV_callv, ↓WV_append, ↓WV_appstr, ↓WV_len, ↓WV_slen, ↓WV_alen, ↓WV_copy, ↓WV_min, ↓WV_max, WC_region, WC_cond', WO_cons, WO_guard', WO_nil, WG_tt, WG_tf, WG_ft, WG_ff, WB_t, WB_f, WB_b, WG_tup, WI_true, WI_false, WV_some, WV_ite, rd_t, rd_l, rd_c, wr_t, wr_l, wr_no, thenQ_nrm, thenQ_ex, thenQ_ret, blockQ_nrm, blockQ_ex, blockQ_ret, Env.get_put, Env.get_leaf, Nat.reduceAdd, Nat.reduceMul, Nat.reduceLT, Nat.reduceEqDiff, reduceIte, List.length_cons, List.length_nil, Nat.add_assoc, binP, ne_eq, not_true_eq_false, map_some, decide_eq_true_eq, decide_true, decide_false, WV_get, ofCells, Bool.false_eq_true, Int.toNat_natCast, and_true, true_and, Bool.not_true, Bool.not_false, Option.map_none, List.map_cons, List.map_nil, bound_none, eq_self_iff_true, Bool.true_eq_false, load_ptr, loadC_cells, load_fptr, store_ptr, storeC_cells, get_putM, get_putN, get_cntS, get_leaf, cnt_putM, cnt_mkM, cells_agg, cells_i, cells_b, cells_s, cells_nsl, cells_fsl, cells_rsl, cells_ptr, cells_mp, one_i, one_b, one_s, one_nsl, one_fsl, one_rsl, one_ptr, one_mp, one_nptr, one_nmp, cut_ite, fillP_nil, fillP_cons, eqs_nil, eqs_cons, eqC_true, eqC_false, eq1O_some, eq1_i, eq1_b, eq1_s, List.take_succ_cons, List.take_zero, List.drop_succ_cons, List.drop_zero, List.cons_append, List.nil_append, List.append_nil, List.all_cons, List.all_nil, Bool.and_self, Bool.and_true, Bool.true_and, Nat.zero_add, Nat.add_zero, Nat.reduceLeDiff, Nat.le_refl, List.getElem?_cons_zero, List.getElem?_cons_succ, Nat.add_left_cancel_iff, Nat.left_eq_add, Nat.add_eq_left, not_false_eq_true, bne_tf, bne_ff, bne_tt, bne_ft, g1, g2, g8, g9, hadd, his, unP]
    (repeat' (first | exact True.intro | rfl | assumption | omega | apply And.intro))
  clear g1 g2 g8 g9
  rintro ⟨env, st1⟩ ⟨g1, g2⟩
  simp only at g1 g2
  -- a byte that begins nothing
  have hpos : ∀ (st : St) (key : Nat), callStep (runPure cfgS (evFn cfgS 0) 14) false st key [.s [33, 34, 36, 37, 38, 39, 44, 46, 47, 58, 62, 63, 64, 91, 92, 93, 94, 96, 124, 126], .i .u8 odd.toNat] = some (.i .i64 (posS odd oddT 0), st) := by
    intro st key
    refine callStep_flat rfl ?_ rfl
    rw [runPure_ext hxS_ib]
    show some (PV.i .i64 (posS ((odd.toNat : Int).toNat.toUInt8) oddT 0)) = _
    simp
  have hne : ∀ n : Nat, n < 256 → ((((odd.toNat : Nat) : Int) != Int.ofNat n) = decide (odd.toNat ≠ n)) := by
    intro n hn
    rw [Bool.eq_iff_iff]
    simp only [bne_iff_ne, ne_eq, decide_eq_true_eq]
    constructor
    · intro h e; exact h (by rw [e]; rfl)
    · intro h e
      have : ((odd.toNat : Nat) : Int) = ((n : Nat) : Int) := e
      omega
  have heq : ((((odd.toNat : Nat) : Int) == Int.ofNat 127) = decide (odd.toNat = 127)) := by
    rw [Bool.eq_iff_iff]
    simp only [beq_iff_eq, decide_eq_true_eq]
    constructor
    · intro e
      have : ((odd.toNat : Nat) : Int) = ((127 : Nat) : Int) := e
      omega
    · intro h; rw [h]; rfl
  have hge : decide (((odd.toNat : Nat) : Int) ≥ Int.ofNat 128) = decide (odd.toNat ≥ 128) := by
    rw [decide_eq_decide]
    constructor
    · intro h; have : ((odd.toNat : Nat) : Int) ≥ 128 := h; omega
    · intro h; show ((odd.toNat : Nat) : Int) ≥ 128; omega
  have hlt : decide (((odd.toNat : Nat) : Int) < Int.ofNat 32) = decide (odd.toNat < 32) := by
    rw [decide_eq_decide]
    constructor
    · intro h; have : ((odd.toNat : Nat) : Int) < 32 := h; omega
    · intro h; show ((odd.toNat : Nat) : Int) < 32; omega
  rw [WC_seq]
  refine (WC.mono (Q := fun e x => (e = .nrm ∧ oddC odd = false) ∨ (e = .ret ∧ x.env.get 6 = .b true)) ?_ ?_)
  · rw [WC_seq]
    refine WC.mono (Q := fun e x => e = .nrm ∧ x.env.get 1 = .s T ∧ x.env.get 2 = PV.i .u8 odd.toNat ∧ x.env.get 62 = PV.b (oddC odd)) ?_ ?_
    · unfold oddC
      have n9 := hne 9 (by omega)
      have n10 := hne 10 (by omega)
      have n13 := hne 13 (by omega)
      generalize decide (odd.toNat ≥ 128) = q1 at *
      generalize decide (odd.toNat < 32) = q3 at *
      generalize decide (odd.toNat ≠ 9) = q4 at *
      generalize decide (odd.toNat ≠ 10) = q5 at *
      generalize decide (odd.toNat ≠ 13) = q6 at *
      generalize decide (odd.toNat = 127) = q7 at *
      cases q1 with
      | true =>
        simp only [↓WC_seq, ↓WC_region, ↓WC_block, ↓WC_scope, ↓WC_skip, ↓WC_exit, ↓WC_ret, ↓WC_cond', ↓WO_cons, ↓WO_guard', ↓WO_nil, ↓WG_tt, ↓WG_tf, ↓WG_ft, ↓WG_ff, ↓WB_t, ↓WB_f, ↓WG_tup, ↓WI_true, ↓WI_false, ↓WV_some, ↓WV_none, ↓WV_ite, ↓WV_get, ↓WV_map_ite, ↓WV_mv, ↓WV_pick, ↓WV_alloc, ↓WV_box, ↓WV_build, ↓WV_bslice, ↓WV_load, ↓WV_store, ↓WV_nilck, ↓WV_bin, ↓WV_eqb, ↓WV_eqn, ↓WV_eqs, ↓WV_mkmap, ↓WV_lookup, ↓WV_mapup, ↓WV_mlen, ↓WV_srange, ↓WV_snext, ↓WV_mark, ↓WV_bad, ↓WV_un, ↓WV_conv, ↓WV_mkfn, ↓WV_mkbfn, ↓WV_mkslice, ↓WV_slice0, ↓WV_slice1, ↓WV_substr, ↓WV_fieldAddr, ↓WV_field, ↓WV_indexAddr0, ↓WV_indexAddr1, ↓WV_index, ↓WV_sindex, ↓WV_extract, ↓WV_call, ↓WV_calle, ↓WV_callq, ↓WV_callv, ↓WV_append, ↓WV_appstr, ↓WV_len, ↓WV_slen, ↓WV_alen, ↓WV_copy, ↓WV_min, ↓WV_max, WC_region, WC_cond', WO_cons, WO_guard', WO_nil, WG_tt, WG_tf, WG_ft, WG_ff, WB_t, WB_f, WB_b, WG_tup, WI_true, WI_false, WV_some, WV_ite, rd_t, rd_l, rd_c, wr_t, wr_l, wr_no, thenQ_nrm, thenQ_ex, thenQ_ret, blockQ_nrm, blockQ_ex, blockQ_ret, Env.get_put, Env.get_leaf, Nat.reduceAdd, Nat.reduceMul, Nat.reduceLT, Nat.reduceEqDiff, reduceIte, List.length_cons, List.length_nil, Nat.add_assoc, binP, ne_eq, not_true_eq_false, map_some, decide_eq_true_eq, decide_true, decide_false, WV_get, ofCells, Bool.false_eq_true, Int.toNat_natCast, and_true, true_and, Bool.not_true, Bool.not_false, Option.map_none, List.map_cons, List.map_nil, bound_none, eq_self_iff_true, Bool.true_eq_false, g1, g2, hge, Bool.true_or]
        (repeat' (first | exact True.intro | rfl | assumption | omega | apply And.intro))
      | false =>
        by_cases hq : posS odd oddT 0 ≥ 0
        · have hq' : posS odd oddT 0 ≥ Int.ofNat 0 := hq
          have e2 : decide (posS odd oddT 0 ≥ 0) = true := by simpa using hq
          rw [e2]
          simp only [↓WC_seq, ↓WC_region, ↓WC_block, ↓WC_scope, ↓WC_skip, ↓WC_exit, ↓WC_ret, ↓WC_cond', ↓WO_cons, ↓WO_guard', ↓WO_nil, ↓WG_tt, ↓WG_tf, ↓WG_ft, ↓WG_ff, ↓WB_t, ↓WB_f, ↓WG_tup, ↓WI_true, ↓WI_false, ↓WV_some, ↓WV_none, ↓WV_ite, ↓WV_get, ↓WV_map_ite, ↓WV_mv, ↓WV_pick, ↓WV_alloc, ↓WV_box, ↓WV_build, ↓WV_bslice, ↓WV_load, ↓WV_store, ↓WV_nilck, ↓WV_bin, ↓WV_eqb, ↓WV_eqn, ↓WV_eqs, ↓WV_mkmap, ↓WV_lookup, ↓WV_mapup, ↓WV_mlen, ↓WV_srange, ↓WV_snext, ↓WV_mark, ↓WV_bad, ↓WV_un, ↓WV_conv, ↓WV_mkfn, ↓WV_mkbfn, ↓WV_mkslice, ↓WV_slice0, ↓WV_slice1, ↓WV_substr, ↓WV_fieldAddr, ↓WV_field, ↓WV_indexAddr0, ↓WV_indexAddr1, ↓WV_index, ↓WV_sindex, ↓WV_extract, ↓WV_call, ↓WV_calle, ↓WV_callq, ↓WV_callv, ↓WV_append, ↓WV_appstr, ↓WV_len, ↓WV_slen, ↓WV_alen, ↓WV_copy, ↓WV_min, ↓WV_max, WC_region, WC_cond', WO_cons, WO_guard', WO_nil, WG_tt, WG_tf, WG_ft, WG_ff, WB_t, WB_f, WB_b, WG_tup, WI_true, WI_false, WV_some, WV_ite, rd_t, rd_l, rd_c, wr_t, wr_l, wr_no, thenQ_nrm, thenQ_ex, thenQ_ret, blockQ_nrm, blockQ_ex, blockQ_ret, Env.get_put, Env.get_leaf, Nat.reduceAdd, Nat.reduceMul, Nat.reduceLT, Nat.reduceEqDiff, reduceIte, List.length_cons, List.length_nil, Nat.add_assoc, binP, ne_eq, not_true_eq_false, map_some, decide_eq_true_eq, decide_true, decide_false, WV_get, ofCells, Bool.false_eq_true, Int.toNat_natCast, and_true, true_and, Bool.not_true, Bool.not_false, Option.map_none, List.map_cons, List.map_nil, bound_none, eq_self_iff_true, Bool.true_eq_false, g1, g2, hge, hpos, hq', Bool.false_or, Bool.true_or]
          (repeat' (first | exact True.intro | rfl | assumption | omega | apply And.intro))
        · have hq' : ¬ posS odd oddT 0 ≥ Int.ofNat 0 := hq
          have e2 : decide (posS odd oddT 0 ≥ 0) = false := by simpa using hq
          rw [e2]
          cases q3 with
          | false =>
            cases q7 <;>
            · simp only [↓WC_seq, ↓WC_region, ↓WC_block, ↓WC_scope, ↓WC_skip, ↓WC_exit, ↓WC_ret, ↓WC_cond', ↓WO_cons, ↓WO_guard', ↓WO_nil, ↓WG_tt, ↓WG_tf, ↓WG_ft, ↓WG_ff, ↓WB_t, ↓WB_f, ↓WG_tup, ↓WI_true, ↓WI_false, ↓WV_some, ↓WV_none, ↓WV_ite, ↓WV_get, ↓WV_map_ite, ↓WV_mv, ↓WV_pick, ↓WV_alloc, ↓WV_box, ↓WV_build, ↓WV_bslice, ↓WV_load, ↓WV_store, ↓WV_nilck, ↓WV_bin, ↓WV_eqb, ↓WV_eqn, ↓WV_eqs, ↓WV_mkmap, ↓WV_lookup, ↓WV_mapup, ↓WV_mlen, ↓WV_srange, ↓WV_snext, ↓WV_mark, ↓WV_bad, ↓WV_un, ↓WV_conv, ↓WV_mkfn, ↓WV_mkbfn, ↓WV_mkslice, ↓WV_slice0, ↓WV_slice1, ↓WV_substr, ↓WV_fieldAddr, ↓WV_field, ↓WV_indexAddr0, ↓WV_indexAddr1, ↓WV_index, ↓WV_sindex, ↓WV_extract, ↓WV_call, ↓WV_calle, ↓WV_callq, ↓WV_callv, ↓WV_append, ↓WV_appstr, ↓WV_len, ↓WV_slen, ↓WV_alen, ↓WV_copy, ↓WV_min, ↓WV_max, WC_region, WC_cond', WO_cons, WO_guard', WO_nil, WG_tt, WG_tf, WG_ft, WG_ff, WB_t, WB_f, WB_b, WG_tup, WI_true, WI_false, WV_some, WV_ite, rd_t, rd_l, rd_c, wr_t, wr_l, wr_no, thenQ_nrm, thenQ_ex, thenQ_ret, blockQ_nrm, blockQ_ex, blockQ_ret, Env.get_put, Env.get_leaf, Nat.reduceAdd, Nat.reduceMul, Nat.reduceLT, Nat.reduceEqDiff, reduceIte, List.length_cons, List.length_nil, Nat.add_assoc, binP, ne_eq, not_true_eq_false, map_some, decide_eq_true_eq, decide_true, decide_false, WV_get, ofCells, Bool.false_eq_true, Int.toNat_natCast, and_true, true_and, Bool.not_true, Bool.not_false, Option.map_none, List.map_cons, List.map_nil, bound_none, eq_self_iff_true, Bool.true_eq_false, g1, g2, hge, hpos, hq', hlt, heq, Bool.false_or, Bool.false_and, Bool.or_false, Bool.or_true]
              (repeat' (first | exact True.intro | rfl | assumption | omega | apply And.intro))
          | true =>
            cases q4 <;> cases q5 <;> cases q6 <;> cases q7 <;>
            · simp only [↓WC_seq, ↓WC_region, ↓WC_block, ↓WC_scope, ↓WC_skip, ↓WC_exit, ↓WC_ret, ↓WC_cond', ↓WO_cons, ↓WO_guard', ↓WO_nil, ↓WG_tt, ↓WG_tf, ↓WG_ft, ↓WG_ff, ↓WB_t, ↓WB_f, ↓WG_tup, ↓WI_true, ↓WI_false, ↓WV_some, ↓WV_none, ↓WV_ite, ↓WV_get, ↓WV_map_ite, ↓WV_mv, ↓WV_pick, ↓WV_alloc, ↓WV_box, ↓WV_build, ↓WV_bslice, ↓WV_load, ↓WV_store, ↓WV_nilck, ↓WV_bin, ↓WV_eqb, ↓WV_eqn, ↓WV_eqs, ↓WV_mkmap, ↓WV_lookup, ↓WV_mapup, ↓WV_mlen, ↓WV_srange, ↓WV_snext, ↓WV_mark, ↓WV_bad, ↓WV_un, ↓WV_conv, ↓WV_mkfn, ↓WV_mkbfn, ↓WV_mkslice, ↓WV_slice0, ↓WV_slice1, ↓WV_substr, ↓WV_fieldAddr, ↓WV_field, ↓WV_indexAddr0, ↓WV_indexAddr1, ↓WV_index, ↓WV_sindex, ↓WV_extract, ↓WV_call, ↓WV_calle, ↓WV_callq, ↓WV_callv, ↓WV_append, ↓WV_appstr, ↓WV_len, ↓WV_slen, ↓WV_alen, ↓WV_copy, ↓WV_min, ↓WV_max, WC_region, WC_cond', WO_cons, WO_guard', WO_nil, WG_tt, WG_tf, WG_ft, WG_ff, WB_t, WB_f, WB_b, WG_tup, WI_true, WI_false, WV_some, WV_ite, rd_t, rd_l, rd_c, wr_t, wr_l, wr_no, thenQ_nrm, thenQ_ex, thenQ_ret, blockQ_nrm, blockQ_ex, blockQ_ret, Env.get_put, Env.get_leaf, Nat.reduceAdd, Nat.reduceMul, Nat.reduceLT, Nat.reduceEqDiff, reduceIte, List.length_cons, List.length_nil, Nat.add_assoc, binP, ne_eq, not_true_eq_false, map_some, decide_eq_true_eq, decide_true, decide_false, WV_get, ofCells, Bool.false_eq_true, Int.toNat_natCast, and_true, true_and, Bool.not_true, Bool.not_false, Option.map_none, List.map_cons, List.map_nil, bound_none, eq_self_iff_true, Bool.true_eq_false, g1, g2, hge, hpos, hq', hlt, n9, n10, n13, heq, Bool.false_or, Bool.true_or, Bool.false_and, Bool.true_and, Bool.and_false, Bool.and_true, Bool.or_false, Bool.or_true]
              (repeat' (first | exact True.intro | rfl | assumption | omega | apply And.intro))
    · rintro e ⟨env, st1⟩ ⟨rfl, g1, g2, g62⟩
      simp only at g1 g2 g62
      simp only [thenQ_nrm]
      cases ho : oddC odd with
      | false =>
        rw [ho] at g62
        simp only [↓WC_seq, ↓WC_region, ↓WC_block, ↓WC_scope, ↓WC_skip, ↓WC_exit, ↓WC_ret, ↓WC_cond', ↓WO_cons, ↓WO_guard', ↓WO_nil, ↓WG_tt, ↓WG_tf, ↓WG_ft, ↓WG_ff, ↓WB_t, ↓WB_f, ↓WG_tup, ↓WI_true, ↓WI_false, ↓WV_some, ↓WV_none, ↓WV_ite, ↓WV_get, ↓WV_map_ite, ↓WV_mv, ↓WV_pick, ↓WV_alloc, ↓WV_box, ↓WV_build, ↓WV_bslice, ↓WV_load, ↓WV_store, ↓WV_nilck, ↓WV_bin, ↓WV_eqb, ↓WV_eqn, ↓WV_eqs, ↓WV_mkmap, ↓WV_lookup, ↓WV_mapup, ↓WV_mlen, ↓WV_srange, ↓WV_snext, ↓WV_mark, ↓WV_bad, ↓WV_un, ↓WV_conv, ↓WV_mkfn, ↓WV_mkbfn, ↓WV_mkslice, ↓WV_slice0, ↓WV_slice1, ↓WV_substr, ↓WV_fieldAddr, ↓WV_field, ↓WV_indexAddr0, ↓WV_indexAddr1, ↓WV_index, ↓WV_sindex, ↓WV_extract, ↓WV_call, ↓WV_calle, ↓WV_callq, ↓WV_callv, ↓WV_append, ↓WV_appstr, ↓WV_len, ↓WV_slen, ↓WV_alen, ↓WV_copy, ↓WV_min, ↓WV_max, WC_region, WC_cond', WO_cons, WO_guard', WO_nil, WG_tt, WG_tf, WG_ft, WG_ff, WB_t, WB_f, WB_b, WG_tup, WI_true, WI_false, WV_some, WV_ite, rd_t, rd_l, rd_c, wr_t, wr_l, wr_no, thenQ_nrm, thenQ_ex, thenQ_ret, blockQ_nrm, blockQ_ex, blockQ_ret, Env.get_put, Env.get_leaf, Nat.reduceAdd, Nat.reduceMul, Nat.reduceLT, Nat.reduceEqDiff, reduceIte, List.length_cons, List.length_nil, Nat.add_assoc, binP, ne_eq, not_true_eq_false, map_some, decide_eq_true_eq, decide_true, decide_false, WV_get, ofCells, Bool.false_eq_true, Int.toNat_natCast, and_true, true_and, Bool.not_true, Bool.not_false, Option.map_none, List.map_cons, List.map_nil, bound_none, eq_self_iff_true, Bool.true_eq_false, g62]
        left
        (repeat' (first | exact True.intro | rfl | assumption | omega | apply And.intro))
      | true =>
        rw [ho] at g62
        obtain ⟨hn1, hn2⟩ := not_odd ho T (by omega)
        have c1 : ∀ (st : St) (key : Nat), callStep (runPure cfgS (evFn cfgS 0) 15) false st key [.s (odd :: T), .i .i64 (.ofNat 0), .i .i64 (.ofNat 1)] = some (.b true, st) := fun st key => callStep_flat rfl (by rw [runPure_ext hxS_no]; exact hn1) rfl
        have c2 : ∀ (st : St) (key : Nat), callStep (runPure cfgS (evFn cfgS 0) 15) false st key [.s (10 :: 32 :: odd :: T), .i .i64 (.ofNat 0), .i .i64 (.ofNat 2)] = some (.b true, st) := fun st key => callStep_flat rfl (by rw [runPure_ext hxS_no]; exact hn2) rfl
        have hbo : bytesOf? [.i .u8 (odd.toNat : Int)] = some [odd] := by
          have := odd.toNat_lt
          unfold bytesOf?
          rw [if_pos (by omega)]
          simp [bytesOf?]
        have a1 : (1 : Nat) + T.length < 9223372036854775807 := by omega
        have a2 : (3 : Nat) + T.length < 9223372036854775807 := by omega
        have hcell : ∀ (st : St) (q : Nat) (cs : List PV) , st.get q = some (.cells cs false) → cs.length = 1 → cellsOf st 1 (.rsl q 1 0 1) = some (1, cs) := by
          intro st q cs h hl
          unfold cellsOf
          simp [h, cut?, hl]
          exact List.take_of_length_le (by omega)
        simp only [↓WC_seq, ↓WC_region, ↓WC_block, ↓WC_scope, ↓WC_skip, ↓WC_exit, ↓WC_ret, ↓WC_cond', ↓WO_cons, ↓WO_guard', ↓WO_nil, ↓WG_tt, ↓WG_tf, ↓WG_ft, ↓WG_ff, ↓WB_t, ↓WB_f, ↓WG_tup, ↓WI_true, ↓WI_false, ↓WV_some, ↓WV_none, ↓WV_ite, ↓WV_get, ↓WV_map_ite, ↓WV_mv, ↓WV_pick, ↓WV_alloc, ↓WV_box, ↓WV_build, ↓WV_bslice, ↓WV_load, ↓WV_store, ↓WV_nilck, ↓WV_bin, ↓WV_eqb, ↓WV_eqn, ↓WV_eqs, ↓WV_mkmap, ↓WV_lookup, ↓WV_mapup, ↓WV_mlen, ↓WV_srange, ↓WV_snext, ↓WV_mark, ↓WV_bad, ↓WV_un, ↓WV_conv, ↓WV_mkfn, ↓WV_mkbfn, ↓WV_mkslice, ↓WV_slice0, ↓WV_slice1, ↓WV_substr, ↓WV_fieldAddr, ↓WV_field, ↓WV_indexAddr0, ↓WV_indexAddr1, ↓WV_index, ↓WV_sindex, ↓WV_extract, ↓WV_call, ↓WV_calle, ↓WV_callq, ↓WV_callv, ↓WV_append, ↓WV_appstr, ↓WV_len, ↓WV_slen, ↓WV_alen, ↓WV_copy, ↓WV_min, ↓WV_max, WC_region, WC_cond', WO_cons, WO_guard', WO_nil, WG_tt, WG_tf, WG_ft, WG_ff, WB_t, WB_f, WB_b, WG_tup, WI_true, WI_false, WV_some, WV_ite, rd_t, rd_l, rd_c, wr_t, wr_l, wr_no, thenQ_nrm, thenQ_ex, thenQ_ret, blockQ_nrm, blockQ_ex, blockQ_ret, Env.get_put, Env.get_leaf, Nat.reduceAdd, Nat.reduceMul, Nat.reduceLT, Nat.reduceEqDiff, reduceIte, List.length_cons, List.length_nil, Nat.add_assoc, binP, ne_eq, not_true_eq_false, map_some, decide_eq_true_eq, decide_true, decide_false, WV_get, ofCells, Bool.false_eq_true, Int.toNat_natCast, and_true, true_and, Bool.not_true, Bool.not_false, Option.map_none, List.map_cons, List.map_nil, bound_none, eq_self_iff_true, Bool.true_eq_false, load_ptr, loadC_cells, load_fptr, store_ptr, storeC_cells, get_putM, get_putN, get_cntS, get_leaf, cnt_putM, cnt_mkM, cells_agg, cells_i, cells_b, cells_s, cells_nsl, cells_fsl, cells_rsl, cells_ptr, cells_mp, one_i, one_b, one_s, one_nsl, one_fsl, one_rsl, one_ptr, one_mp, one_nptr, one_nmp, cut_ite, fillP_nil, fillP_cons, eqs_nil, eqs_cons, eqC_true, eqC_false, eq1O_some, eq1_i, eq1_b, eq1_s, List.take_succ_cons, List.take_zero, List.drop_succ_cons, List.drop_zero, List.cons_append, List.nil_append, List.append_nil, List.all_cons, List.all_nil, Bool.and_self, Bool.and_true, Bool.true_and, Nat.zero_add, Nat.add_zero, Nat.reduceLeDiff, Nat.le_refl, List.getElem?_cons_zero, List.getElem?_cons_succ, Nat.add_left_cancel_iff, Nat.left_eq_add, Nat.add_eq_left, not_false_eq_true, bne_tf, bne_ff, bne_tt, bne_ft, g62, g1, g2, cellsOf, hbo, a1, a2, c1, c2, haw]
        exact .inr trivial
  · rintro e ⟨env, st1⟩ h
    rcases h with ⟨rfl, ho⟩ | ⟨rfl, g6⟩
    · simp only [thenQ_nrm, ↓WC_seq, ↓WC_region, ↓WC_block, ↓WC_scope, ↓WC_skip, ↓WC_exit, ↓WC_ret, ↓WC_cond', ↓WO_cons, ↓WO_guard', ↓WO_nil, ↓WG_tt, ↓WG_tf, ↓WG_ft, ↓WG_ff, ↓WB_t, ↓WB_f, ↓WG_tup, ↓WI_true, ↓WI_false, ↓WV_some, ↓WV_none, ↓WV_ite, ↓WV_get, ↓WV_map_ite, ↓WV_mv, ↓WV_pick, ↓WV_alloc, ↓WV_box, ↓WV_build, ↓WV_bslice, ↓WV_load, ↓WV_store, ↓WV_nilck, ↓WV_bin, ↓WV_eqb, ↓WV_eqn, ↓WV_eqs, ↓WV_mkmap, ↓WV_lookup, ↓WV_mapup, ↓WV_mlen, ↓WV_srange, ↓WV_snext, ↓WV_mark, ↓WV_bad, ↓WV_un, ↓WV_conv, ↓WV_mkfn, ↓WV_mkbfn, ↓WV_mkslice, ↓WV_slice0, ↓WV_slice1, ↓WV_substr, ↓WV_fieldAddr, ↓WV_field, ↓WV_indexAddr0, ↓WV_indexAddr1, ↓WV_index, ↓WV_sindex, ↓WV_extract, ↓WV_call, ↓WV_calle, ↓WV_callq, ↓WV_callv, ↓WV_append, ↓WV_appstr, ↓WV_len, ↓WV_slen, ↓WV_alen, ↓WV_copy, ↓WV_min, ↓WV_max, WC_region, WC_cond', WO_cons, WO_guard', WO_nil, WG_tt, WG_tf, WG_ft, WG_ff, WB_t, WB_f, WB_b, WG_tup, WI_true, WI_false, WV_some, WV_ite, rd_t, rd_l, rd_c, wr_t, wr_l, wr_no, thenQ_nrm, thenQ_ex, thenQ_ret, blockQ_nrm, blockQ_ex, blockQ_ret, Env.get_put, Env.get_leaf, Nat.reduceAdd, Nat.reduceMul, Nat.reduceLT, Nat.reduceEqDiff, reduceIte, List.length_cons, List.length_nil, Nat.add_assoc, binP, ne_eq, not_true_eq_false, map_some, decide_eq_true_eq, decide_true, decide_false, WV_get, ofCells, Bool.false_eq_true, Int.toNat_natCast, and_true, true_and, Bool.not_true, Bool.not_false, Option.map_none, List.map_cons, List.map_nil, bound_none, eq_self_iff_true, Bool.true_eq_false, haw]
      refine ⟨nofun, _, rfl, ?_⟩
      simp only [tupV, ↓WC_seq, ↓WC_region, ↓WC_block, ↓WC_scope, ↓WC_skip, ↓WC_exit, ↓WC_ret, ↓WC_cond', ↓WO_cons, ↓WO_guard', ↓WO_nil, ↓WG_tt, ↓WG_tf, ↓WG_ft, ↓WG_ff, ↓WB_t, ↓WB_f, ↓WG_tup, ↓WI_true, ↓WI_false, ↓WV_some, ↓WV_none, ↓WV_ite, ↓WV_get, ↓WV_map_ite, ↓WV_mv, ↓WV_pick, ↓WV_alloc, ↓WV_box, ↓WV_build, ↓WV_bslice, ↓WV_load, ↓WV_store, ↓WV_nilck, ↓WV_bin, ↓WV_eqb, ↓WV_eqn, ↓WV_eqs, ↓WV_mkmap, ↓WV_lookup, ↓WV_mapup, ↓WV_mlen, ↓WV_srange, ↓WV_snext, ↓WV_mark, ↓WV_bad, ↓WV_un, ↓WV_conv, ↓WV_mkfn, ↓WV_mkbfn, ↓WV_mkslice, ↓WV_slice0, ↓WV_slice1, ↓WV_substr, ↓WV_fieldAddr, ↓WV_field, ↓WV_indexAddr0, ↓WV_indexAddr1, ↓WV_index, ↓WV_sindex, ↓WV_extract, ↓WV_call, ↓WV_calle, ↓WV_callq, ↓WV_callv, ↓WV_append, ↓WV_appstr, ↓WV_len, ↓WV_slen, ↓WV_alen, ↓WV_copy, ↓WV_min, ↓WV_max, WC_region, WC_cond', WO_cons, WO_guard', WO_nil, WG_tt, WG_tf, WG_ft, WG_ff, WB_t, WB_f, WB_b, WG_tup, WI_true, WI_false, WV_some, WV_ite, rd_t, rd_l, rd_c, wr_t, wr_l, wr_no, thenQ_nrm, thenQ_ex, thenQ_ret, blockQ_nrm, blockQ_ex, blockQ_ret, Env.get_put, Env.get_leaf, Nat.reduceAdd, Nat.reduceMul, Nat.reduceLT, Nat.reduceEqDiff, reduceIte, List.length_cons, List.length_nil, Nat.add_assoc, binP, ne_eq, not_true_eq_false, map_some, decide_eq_true_eq, decide_true, decide_false, WV_get, ofCells, Bool.false_eq_true, Int.toNat_natCast, and_true, true_and, Bool.not_true, Bool.not_false, Option.map_none, List.map_cons, List.map_nil, bound_none, eq_self_iff_true, Bool.true_eq_false]
    · simp only at g6
      simp only [thenQ_ret]
      refine ⟨nofun, [.b true], ?_, rfl⟩
      simp [mapO, resP, g6]
theorem signs_ev' (which : Int) (text : List UInt8) (x : Int) (hw : (Lit.int .u8 x).wf = true) : ∃ fuel, evP cfgS fuel 6 [.i .i64 which, .s text, .i .u8 x] = some (.b true) := by
  simp [Lit.wf, IntKind.min, IntKind.max, IntKind.signed, IntKind.bits] at hw
  exact signs_ev which text x (by omega) (by omega)
end Go.Pe
