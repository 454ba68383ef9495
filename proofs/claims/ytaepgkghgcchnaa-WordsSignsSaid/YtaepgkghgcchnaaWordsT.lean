/-
  Words: what the laws share: is, not, awake, Pick. No condition.
-/
import Derived.Test.YtaepgkghgcchnaaWordsS
import Derived.Test.YtaepgkghgcchnaaPe4
set_option linter.unusedVariables false
set_option linter.unusedSimpArgs false
namespace Go.Pe
open Go Go.Am Go.RowKit

def extI : FuncId → Option (List PV → Option PV) := fun f => if f = 7 then some gNext else none
noncomputable def cfgI : Cfg := { fn := fun f => lookT f tblL, ext := extI }
theorem hxI_ne : cfgI.ext 7 = some gNext := by kernel_rfl
theorem hxI_is : cfgI.ext 10 = none := by kernel_rfl
theorem hxI_no : cfgI.ext 15 = none := by kernel_rfl
theorem hxI_aw : cfgI.ext 9 = none := by kernel_rfl
theorem hxI_pi : cfgI.ext 12 = none := by kernel_rfl
theorem hfI_is : cfgI.fn 10 = some m10 := by kernel_rfl
theorem hfI_no : cfgI.fn 15 = some m15 := by kernel_rfl
theorem hfI_pi : cfgI.fn 12 = some m12 := by kernel_rfl
/-- is a token told just this one? (where it is) -/
noncomputable def gIs : List PV → Option PV
  | [.s text, .i .i64 a, .agg [.i .u8 k, .s s, .i .i64 n, .i .i64 l, .i .i64 p, .i .i64 e]] => by classical exact if gNext [.s text, .i .i64 a] = some (wordR k s n l p e) then some (.b true) else none
  | _ => none
/-- is there none, in that line? (where it is so) -/
noncomputable def gNot : List PV → Option PV
  | [.s text, .i .i64 a, .i .i64 l] => by classical exact if gNext [.s text, .i .i64 a] = some (faultR 100 l) then some (.b true) else none
  | _ => none
set_option maxHeartbeats 4000000 in
theorem is_any (args : List PV) (r : PV) (h : gIs args = some r) : ∃ fuel, evP cfgI fuel 10 args = some r := by
  unfold gIs at h
  split at h
  · rename_i text a k s n l p e
    split at h
    · rename_i hn
      simp only [Option.some.injEq] at h
      subst h
      refine ⟨0 + 1, evP_of hxI_is rfl ?_⟩
      have hcall : ∀ (st : St) (key : Nat), callStep (runPure cfgI (evFn cfgI 0) 7) false st key [.s text, .i .i64 a] = some (.tup [.agg [.i .u8 k, .s s, .i .i64 n, .i .i64 l, .i .i64 p, .i .i64 e], .agg [.i .i64 0, .i .i64 0]], st) := by
        intro st key
        exact callStep_flat rfl (by rw [runPure_ext hxI_ne]; exact hn) rfl
      refine evFn_W hfI_is ?_
      unfold m10
      simp only [putArgs, ↓WC_seq, ↓WC_region, ↓WC_block, ↓WC_scope, ↓WC_skip, ↓WC_exit, ↓WC_ret, ↓WC_cond', ↓WO_cons, ↓WO_guard', ↓WO_nil, ↓WG_tt, ↓WG_tf, ↓WG_ft, ↓WG_ff, ↓WB_t, ↓WB_f, ↓WG_tup, ↓WI_true, ↓WI_false, ↓WV_some, ↓WV_none, ↓WV_ite, ↓WV_get, ↓WV_map_ite, ↓WV_mv, ↓WV_pick, ↓WV_alloc, ↓WV_box, ↓WV_build, ↓WV_bslice, ↓WV_load, ↓WV_store, ↓WV_nilck, ↓WV_bin, ↓WV_eqb, ↓WV_eqn, ↓WV_eqs, ↓WV_mkmap, ↓WV_lookup, ↓WV_mapup, ↓WV_mlen, ↓WV_srange, ↓WV_snext, ↓WV_mark, ↓WV_bad, ↓WV_un, ↓WV_conv, ↓WV_mkfn, ↓WV_mkbfn, ↓WV_mkslice, ↓WV_slice0, ↓WV_slice1, ↓WV_substr, ↓WV_fieldAddr, ↓WV_field, ↓WV_indexAddr0, ↓WV_indexAddr1, ↓WV_index, ↓WV_sindex, ↓WV_extract, ↓WV_call, ↓WV_calle, ↓WV_callq, ↓WV_callv, ↓WV_append, ↓WV_appstr, ↓WV_len, ↓WV_slen, ↓WV_alen, ↓WV_copy, ↓WV_min, ↓WV_max, WC_region, WC_cond', WO_cons, WO_guard', WO_nil, WG_tt, WG_tf, WG_ft, WG_ff, WB_t, WB_f, WB_b, WG_tup, WI_true, WI_false, WV_some, WV_ite, rd_t, rd_l, rd_c, wr_t, wr_l, wr_no, thenQ_nrm, thenQ_ex, thenQ_ret, blockQ_nrm, blockQ_ex, blockQ_ret, Env.get_put, Env.get_leaf, Nat.reduceAdd, Nat.reduceMul, Nat.reduceLT, Nat.reduceEqDiff, reduceIte, List.length_cons, List.length_nil, Nat.add_assoc, binP, ne_eq, not_true_eq_false, map_some, decide_eq_true_eq, decide_true, decide_false, WV_get, ofCells, Bool.false_eq_true, Int.toNat_natCast, and_true, true_and, Bool.not_true, Bool.not_false, Option.map_none, List.map_cons, List.map_nil, bound_none, eq_self_iff_true, Bool.true_eq_false, load_ptr, loadC_cells, load_fptr, store_ptr, storeC_cells, get_putM, get_putN, get_cntS, get_leaf, cnt_putM, cnt_mkM, cells_agg, cells_i, cells_b, cells_s, cells_nsl, cells_fsl, cells_rsl, cells_ptr, cells_mp, one_i, one_b, one_s, one_nsl, one_fsl, one_rsl, one_ptr, one_mp, one_nptr, one_nmp, cut_ite, fillP_nil, fillP_cons, eqs_nil, eqs_cons, eqC_true, eqC_false, eq1O_some, eq1_i, eq1_b, eq1_s, List.take_succ_cons, List.take_zero, List.drop_succ_cons, List.drop_zero, List.cons_append, List.nil_append, List.append_nil, List.all_cons, List.all_nil, Bool.and_self, Bool.and_true, Bool.true_and, Nat.zero_add, Nat.add_zero, Nat.reduceLeDiff, Nat.le_refl, List.getElem?_cons_zero, List.getElem?_cons_succ, Nat.add_left_cancel_iff, Nat.left_eq_add, Nat.add_eq_left, not_false_eq_true, bne_tf, bne_ff, bne_tt, bne_ft, hcall, beq_self_eq_true, show ((0 : Int) == Int.ofNat 0) = true from rfl]
      refine ⟨nofun, _, rfl, ?_⟩
      simp only [tupV, ↓WC_seq, ↓WC_region, ↓WC_block, ↓WC_scope, ↓WC_skip, ↓WC_exit, ↓WC_ret, ↓WC_cond', ↓WO_cons, ↓WO_guard', ↓WO_nil, ↓WG_tt, ↓WG_tf, ↓WG_ft, ↓WG_ff, ↓WB_t, ↓WB_f, ↓WG_tup, ↓WI_true, ↓WI_false, ↓WV_some, ↓WV_none, ↓WV_ite, ↓WV_get, ↓WV_map_ite, ↓WV_mv, ↓WV_pick, ↓WV_alloc, ↓WV_box, ↓WV_build, ↓WV_bslice, ↓WV_load, ↓WV_store, ↓WV_nilck, ↓WV_bin, ↓WV_eqb, ↓WV_eqn, ↓WV_eqs, ↓WV_mkmap, ↓WV_lookup, ↓WV_mapup, ↓WV_mlen, ↓WV_srange, ↓WV_snext, ↓WV_mark, ↓WV_bad, ↓WV_un, ↓WV_conv, ↓WV_mkfn, ↓WV_mkbfn, ↓WV_mkslice, ↓WV_slice0, ↓WV_slice1, ↓WV_substr, ↓WV_fieldAddr, ↓WV_field, ↓WV_indexAddr0, ↓WV_indexAddr1, ↓WV_index, ↓WV_sindex, ↓WV_extract, ↓WV_call, ↓WV_calle, ↓WV_callq, ↓WV_callv, ↓WV_append, ↓WV_appstr, ↓WV_len, ↓WV_slen, ↓WV_alen, ↓WV_copy, ↓WV_min, ↓WV_max, WC_region, WC_cond', WO_cons, WO_guard', WO_nil, WG_tt, WG_tf, WG_ft, WG_ff, WB_t, WB_f, WB_b, WG_tup, WI_true, WI_false, WV_some, WV_ite, rd_t, rd_l, rd_c, wr_t, wr_l, wr_no, thenQ_nrm, thenQ_ex, thenQ_ret, blockQ_nrm, blockQ_ex, blockQ_ret, Env.get_put, Env.get_leaf, Nat.reduceAdd, Nat.reduceMul, Nat.reduceLT, Nat.reduceEqDiff, reduceIte, List.length_cons, List.length_nil, Nat.add_assoc, binP, ne_eq, not_true_eq_false, map_some, decide_eq_true_eq, decide_true, decide_false, WV_get, ofCells, Bool.false_eq_true, Int.toNat_natCast, and_true, true_and, Bool.not_true, Bool.not_false, Option.map_none, List.map_cons, List.map_nil, bound_none, eq_self_iff_true, Bool.true_eq_false]
      rfl
    · simp at h
  · simp at h
set_option maxHeartbeats 4000000 in
theorem not_any (args : List PV) (r : PV) (h : gNot args = some r) : ∃ fuel, evP cfgI fuel 15 args = some r := by
  unfold gNot at h
  split at h
  · rename_i text a l
    split at h
    · rename_i hn
      simp only [Option.some.injEq] at h
      subst h
      refine ⟨0 + 1, evP_of hxI_no rfl ?_⟩
      have hcall : ∀ (st : St) (key : Nat), callStep (runPure cfgI (evFn cfgI 0) 7) false st key [.s text, .i .i64 a] = some (.tup [.agg [.i .u8 0, .s [], .i .i64 0, .i .i64 0, .i .i64 0, .i .i64 0], .agg [.i .i64 100, .i .i64 l]], st) := by
        intro st key
        exact callStep_flat rfl (by rw [runPure_ext hxI_ne]; exact hn) rfl
      refine evFn_W hfI_no ?_
      unfold m15
      simp only [putArgs, ↓WC_seq, ↓WC_region, ↓WC_block, ↓WC_scope, ↓WC_skip, ↓WC_exit, ↓WC_ret, ↓WC_cond', ↓WO_cons, ↓WO_guard', ↓WO_nil, ↓WG_tt, ↓WG_tf, ↓WG_ft, ↓WG_ff, ↓WB_t, ↓WB_f, ↓WG_tup, ↓WI_true, ↓WI_false, ↓WV_some, ↓WV_none, ↓WV_ite, ↓WV_get, ↓WV_map_ite, ↓WV_mv, ↓WV_pick, ↓WV_alloc, ↓WV_box, ↓WV_build, ↓WV_bslice, ↓WV_load, ↓WV_store, ↓WV_nilck, ↓WV_bin, ↓WV_eqb, ↓WV_eqn, ↓WV_eqs, ↓WV_mkmap, ↓WV_lookup, ↓WV_mapup, ↓WV_mlen, ↓WV_srange, ↓WV_snext, ↓WV_mark, ↓WV_bad, ↓WV_un, ↓WV_conv, ↓WV_mkfn, ↓WV_mkbfn, ↓WV_mkslice, ↓WV_slice0, ↓WV_slice1, ↓WV_substr, ↓WV_fieldAddr, ↓WV_field, ↓WV_indexAddr0, ↓WV_indexAddr1, ↓WV_index, ↓WV_sindex, ↓WV_extract, ↓WV_call, ↓WV_calle, ↓WV_callq, ↓WV_callv, ↓WV_append, ↓WV_appstr, ↓WV_len, ↓WV_slen, ↓WV_alen, ↓WV_copy, ↓WV_min, ↓WV_max, WC_region, WC_cond', WO_cons, WO_guard', WO_nil, WG_tt, WG_tf, WG_ft, WG_ff, WB_t, WB_f, WB_b, WG_tup, WI_true, WI_false, WV_some, WV_ite, rd_t, rd_l, rd_c, wr_t, wr_l, wr_no, thenQ_nrm, thenQ_ex, thenQ_ret, blockQ_nrm, blockQ_ex, blockQ_ret, Env.get_put, Env.get_leaf, Nat.reduceAdd, Nat.reduceMul, Nat.reduceLT, Nat.reduceEqDiff, reduceIte, List.length_cons, List.length_nil, Nat.add_assoc, binP, ne_eq, not_true_eq_false, map_some, decide_eq_true_eq, decide_true, decide_false, WV_get, ofCells, Bool.false_eq_true, Int.toNat_natCast, and_true, true_and, Bool.not_true, Bool.not_false, Option.map_none, List.map_cons, List.map_nil, bound_none, eq_self_iff_true, Bool.true_eq_false, load_ptr, loadC_cells, load_fptr, store_ptr, storeC_cells, get_putM, get_putN, get_cntS, get_leaf, cnt_putM, cnt_mkM, cells_agg, cells_i, cells_b, cells_s, cells_nsl, cells_fsl, cells_rsl, cells_ptr, cells_mp, one_i, one_b, one_s, one_nsl, one_fsl, one_rsl, one_ptr, one_mp, one_nptr, one_nmp, cut_ite, fillP_nil, fillP_cons, eqs_nil, eqs_cons, eqC_true, eqC_false, eq1O_some, eq1_i, eq1_b, eq1_s, List.take_succ_cons, List.take_zero, List.drop_succ_cons, List.drop_zero, List.cons_append, List.nil_append, List.append_nil, List.all_cons, List.all_nil, Bool.and_self, Bool.and_true, Bool.true_and, Nat.zero_add, Nat.add_zero, Nat.reduceLeDiff, Nat.le_refl, List.getElem?_cons_zero, List.getElem?_cons_succ, Nat.add_left_cancel_iff, Nat.left_eq_add, Nat.add_eq_left, not_false_eq_true, bne_tf, bne_ff, bne_tt, bne_ft, hcall, beq_self_eq_true, show ((0 : Int) == Int.ofNat 0) = true from rfl, show ((100 : Int) == Int.ofNat 100) = true from rfl]
      refine ⟨nofun, _, rfl, ?_⟩
      simp only [tupV, ↓WC_seq, ↓WC_region, ↓WC_block, ↓WC_scope, ↓WC_skip, ↓WC_exit, ↓WC_ret, ↓WC_cond', ↓WO_cons, ↓WO_guard', ↓WO_nil, ↓WG_tt, ↓WG_tf, ↓WG_ft, ↓WG_ff, ↓WB_t, ↓WB_f, ↓WG_tup, ↓WI_true, ↓WI_false, ↓WV_some, ↓WV_none, ↓WV_ite, ↓WV_get, ↓WV_map_ite, ↓WV_mv, ↓WV_pick, ↓WV_alloc, ↓WV_box, ↓WV_build, ↓WV_bslice, ↓WV_load, ↓WV_store, ↓WV_nilck, ↓WV_bin, ↓WV_eqb, ↓WV_eqn, ↓WV_eqs, ↓WV_mkmap, ↓WV_lookup, ↓WV_mapup, ↓WV_mlen, ↓WV_srange, ↓WV_snext, ↓WV_mark, ↓WV_bad, ↓WV_un, ↓WV_conv, ↓WV_mkfn, ↓WV_mkbfn, ↓WV_mkslice, ↓WV_slice0, ↓WV_slice1, ↓WV_substr, ↓WV_fieldAddr, ↓WV_field, ↓WV_indexAddr0, ↓WV_indexAddr1, ↓WV_index, ↓WV_sindex, ↓WV_extract, ↓WV_call, ↓WV_calle, ↓WV_callq, ↓WV_callv, ↓WV_append, ↓WV_appstr, ↓WV_len, ↓WV_slen, ↓WV_alen, ↓WV_copy, ↓WV_min, ↓WV_max, WC_region, WC_cond', WO_cons, WO_guard', WO_nil, WG_tt, WG_tf, WG_ft, WG_ff, WB_t, WB_f, WB_b, WG_tup, WI_true, WI_false, WV_some, WV_ite, rd_t, rd_l, rd_c, wr_t, wr_l, wr_no, thenQ_nrm, thenQ_ex, thenQ_ret, blockQ_nrm, blockQ_ex, blockQ_ret, Env.get_put, Env.get_leaf, Nat.reduceAdd, Nat.reduceMul, Nat.reduceLT, Nat.reduceEqDiff, reduceIte, List.length_cons, List.length_nil, Nat.add_assoc, binP, ne_eq, not_true_eq_false, map_some, decide_eq_true_eq, decide_true, decide_false, WV_get, ofCells, Bool.false_eq_true, Int.toNat_natCast, and_true, true_and, Bool.not_true, Bool.not_false, Option.map_none, List.map_cons, List.map_nil, bound_none, eq_self_iff_true, Bool.true_eq_false]
      rfl
    · simp at h
  · simp at h
set_option maxRecDepth 100000 in
theorem awake_run : fvP cfgI 40 9 [] = some (.b true) := by kernel_rfl
def gAwake : List PV → Option PV
  | [] => some (.b true)
  | _ => none
theorem awake_any (args : List PV) (r : PV) (h : gAwake args = some r) : ∃ fuel, evP cfgI fuel 9 args = some r := by
  unfold gAwake at h
  split at h
  · rw [← h]
    refine ⟨40, ?_⟩
    have := awake_run
    rwa [fvP_eq] at this
  · simp at h
def pickL (x n : Int) : Int := if n < 1 then 0 else if x.tmod n < 0 then x.tmod n + n else x.tmod n
def gPick : List PV → Option PV
  | [.i .i64 x, .i .i64 n] => if -9223372036854775808 ≤ n ∧ n < 9223372036854775808 then some (.i .i64 (pickL x n)) else none
  | _ => none
theorem pickL_lt {x n : Int} (h : 0 < n) : 0 ≤ pickL x n ∧ pickL x n < n := by
  unfold pickL
  have := Int.tmod_lt_of_pos x h
  have := Int.lt_tmod_of_pos x h
  split
  · omega
  · split <;> omega
set_option maxHeartbeats 4000000 in
theorem pick_any (args : List PV) (r : PV) (h : gPick args = some r) : ∃ fuel, evP cfgI fuel 12 args = some r := by
  unfold gPick at h
  split at h
  · rename_i x n
    split at h
    · rename_i hr
      simp only [Option.some.injEq] at h
      subst h
      refine ⟨0 + 1, evP_of hxI_pi rfl ?_⟩
      refine evFn_W hfI_pi ?_
      unfold m12
      by_cases h1 : n < Int.ofNat 1
      · have h1' : n < 1 := h1
        simp only [putArgs, ↓WC_seq, ↓WC_region, ↓WC_block, ↓WC_scope, ↓WC_skip, ↓WC_exit, ↓WC_ret, ↓WC_cond', ↓WO_cons, ↓WO_guard', ↓WO_nil, ↓WG_tt, ↓WG_tf, ↓WG_ft, ↓WG_ff, ↓WB_t, ↓WB_f, ↓WG_tup, ↓WI_true, ↓WI_false, ↓WV_some, ↓WV_none, ↓WV_ite, ↓WV_get, ↓WV_map_ite, ↓WV_mv, ↓WV_pick, ↓WV_alloc, ↓WV_box, ↓WV_build, ↓WV_bslice, ↓WV_load, ↓WV_store, ↓WV_nilck, ↓WV_bin, ↓WV_eqb, ↓WV_eqn, ↓WV_eqs, ↓WV_mkmap, ↓WV_lookup, ↓WV_mapup, ↓WV_mlen, ↓WV_srange, ↓WV_snext, ↓WV_mark, ↓WV_bad, ↓WV_un, ↓WV_conv, ↓WV_mkfn, ↓WV_mkbfn, ↓WV_mkslice, ↓WV_slice0, ↓WV_slice1, ↓WV_substr, ↓WV_fieldAddr, ↓WV_field, ↓WV_indexAddr0, ↓WV_indexAddr1, ↓WV_index, ↓WV_sindex, ↓WV_extract, ↓WV_call, ↓WV_calle, ↓WV_callq, ↓WV_callv, ↓WV_append, ↓WV_appstr, ↓WV_len, ↓WV_slen, ↓WV_alen, ↓WV_copy, ↓WV_min, ↓WV_max, WC_region, WC_cond', WO_cons, WO_guard', WO_nil, WG_tt, WG_tf, WG_ft, WG_ff, WB_t, WB_f, WB_b, WG_tup, WI_true, WI_false, WV_some, WV_ite, rd_t, rd_l, rd_c, wr_t, wr_l, wr_no, thenQ_nrm, thenQ_ex, thenQ_ret, blockQ_nrm, blockQ_ex, blockQ_ret, Env.get_put, Env.get_leaf, Nat.reduceAdd, Nat.reduceMul, Nat.reduceLT, Nat.reduceEqDiff, reduceIte, List.length_cons, List.length_nil, Nat.add_assoc, binP, ne_eq, not_true_eq_false, map_some, decide_eq_true_eq, decide_true, decide_false, WV_get, ofCells, Bool.false_eq_true, Int.toNat_natCast, and_true, true_and, Bool.not_true, Bool.not_false, Option.map_none, List.map_cons, List.map_nil, bound_none, eq_self_iff_true, Bool.true_eq_false, load_ptr, loadC_cells, load_fptr, store_ptr, storeC_cells, get_putM, get_putN, get_cntS, get_leaf, cnt_putM, cnt_mkM, cells_agg, cells_i, cells_b, cells_s, cells_nsl, cells_fsl, cells_rsl, cells_ptr, cells_mp, one_i, one_b, one_s, one_nsl, one_fsl, one_rsl, one_ptr, one_mp, one_nptr, one_nmp, cut_ite, fillP_nil, fillP_cons, eqs_nil, eqs_cons, eqC_true, eqC_false, eq1O_some, eq1_i, eq1_b, eq1_s, List.take_succ_cons, List.take_zero, List.drop_succ_cons, List.drop_zero, List.cons_append, List.nil_append, List.append_nil, List.all_cons, List.all_nil, Bool.and_self, Bool.and_true, Bool.true_and, Nat.zero_add, Nat.add_zero, Nat.reduceLeDiff, Nat.le_refl, List.getElem?_cons_zero, List.getElem?_cons_succ, Nat.add_left_cancel_iff, Nat.left_eq_add, Nat.add_eq_left, not_false_eq_true, bne_tf, bne_ff, bne_tt, bne_ft, h1]
        refine ⟨nofun, _, rfl, ?_⟩
        simp only [tupV, ↓WC_seq, ↓WC_region, ↓WC_block, ↓WC_scope, ↓WC_skip, ↓WC_exit, ↓WC_ret, ↓WC_cond', ↓WO_cons, ↓WO_guard', ↓WO_nil, ↓WG_tt, ↓WG_tf, ↓WG_ft, ↓WG_ff, ↓WB_t, ↓WB_f, ↓WG_tup, ↓WI_true, ↓WI_false, ↓WV_some, ↓WV_none, ↓WV_ite, ↓WV_get, ↓WV_map_ite, ↓WV_mv, ↓WV_pick, ↓WV_alloc, ↓WV_box, ↓WV_build, ↓WV_bslice, ↓WV_load, ↓WV_store, ↓WV_nilck, ↓WV_bin, ↓WV_eqb, ↓WV_eqn, ↓WV_eqs, ↓WV_mkmap, ↓WV_lookup, ↓WV_mapup, ↓WV_mlen, ↓WV_srange, ↓WV_snext, ↓WV_mark, ↓WV_bad, ↓WV_un, ↓WV_conv, ↓WV_mkfn, ↓WV_mkbfn, ↓WV_mkslice, ↓WV_slice0, ↓WV_slice1, ↓WV_substr, ↓WV_fieldAddr, ↓WV_field, ↓WV_indexAddr0, ↓WV_indexAddr1, ↓WV_index, ↓WV_sindex, ↓WV_extract, ↓WV_call, ↓WV_calle, ↓WV_callq, ↓WV_callv, ↓WV_append, ↓WV_appstr, ↓WV_len, ↓WV_slen, ↓WV_alen, ↓WV_copy, ↓WV_min, ↓WV_max, WC_region, WC_cond', WO_cons, WO_guard', WO_nil, WG_tt, WG_tf, WG_ft, WG_ff, WB_t, WB_f, WB_b, WG_tup, WI_true, WI_false, WV_some, WV_ite, rd_t, rd_l, rd_c, wr_t, wr_l, wr_no, thenQ_nrm, thenQ_ex, thenQ_ret, blockQ_nrm, blockQ_ex, blockQ_ret, Env.get_put, Env.get_leaf, Nat.reduceAdd, Nat.reduceMul, Nat.reduceLT, Nat.reduceEqDiff, reduceIte, List.length_cons, List.length_nil, Nat.add_assoc, binP, ne_eq, not_true_eq_false, map_some, decide_eq_true_eq, decide_true, decide_false, WV_get, ofCells, Bool.false_eq_true, Int.toNat_natCast, and_true, true_and, Bool.not_true, Bool.not_false, Option.map_none, List.map_cons, List.map_nil, bound_none, eq_self_iff_true, Bool.true_eq_false, pickL, h1']
        rfl
      · have h1' : ¬ n < 1 := h1
        have hn0 : ¬ n = 0 := by omega
        have := Int.tmod_lt_of_pos x (b := n) (by omega)
        have := Int.lt_tmod_of_pos x (b := n) (by omega)
        by_cases h2 : x.tmod n < Int.ofNat 0
        · have h2' : x.tmod n < 0 := h2
          have hw : IntKind.i64.wrap (x.tmod n + n) = x.tmod n + n := wr_i64 _ (by omega)
          simp only [putArgs, ↓WC_seq, ↓WC_region, ↓WC_block, ↓WC_scope, ↓WC_skip, ↓WC_exit, ↓WC_ret, ↓WC_cond', ↓WO_cons, ↓WO_guard', ↓WO_nil, ↓WG_tt, ↓WG_tf, ↓WG_ft, ↓WG_ff, ↓WB_t, ↓WB_f, ↓WG_tup, ↓WI_true, ↓WI_false, ↓WV_some, ↓WV_none, ↓WV_ite, ↓WV_get, ↓WV_map_ite, ↓WV_mv, ↓WV_pick, ↓WV_alloc, ↓WV_box, ↓WV_build, ↓WV_bslice, ↓WV_load, ↓WV_store, ↓WV_nilck, ↓WV_bin, ↓WV_eqb, ↓WV_eqn, ↓WV_eqs, ↓WV_mkmap, ↓WV_lookup, ↓WV_mapup, ↓WV_mlen, ↓WV_srange, ↓WV_snext, ↓WV_mark, ↓WV_bad, ↓WV_un, ↓WV_conv, ↓WV_mkfn, ↓WV_mkbfn, ↓WV_mkslice, ↓WV_slice0, ↓WV_slice1, ↓WV_substr, ↓WV_fieldAddr, ↓WV_field, ↓WV_indexAddr0, ↓WV_indexAddr1, ↓WV_index, ↓WV_sindex, ↓WV_extract, ↓WV_call, ↓WV_calle, ↓WV_callq, ↓WV_callv, ↓WV_append, ↓WV_appstr, ↓WV_len, ↓WV_slen, ↓WV_alen, ↓WV_copy, ↓WV_min, ↓WV_max, WC_region, WC_cond', WO_cons, WO_guard', WO_nil, WG_tt, WG_tf, WG_ft, WG_ff, WB_t, WB_f, WB_b, WG_tup, WI_true, WI_false, WV_some, WV_ite, rd_t, rd_l, rd_c, wr_t, wr_l, wr_no, thenQ_nrm, thenQ_ex, thenQ_ret, blockQ_nrm, blockQ_ex, blockQ_ret, Env.get_put, Env.get_leaf, Nat.reduceAdd, Nat.reduceMul, Nat.reduceLT, Nat.reduceEqDiff, reduceIte, List.length_cons, List.length_nil, Nat.add_assoc, binP, ne_eq, not_true_eq_false, map_some, decide_eq_true_eq, decide_true, decide_false, WV_get, ofCells, Bool.false_eq_true, Int.toNat_natCast, and_true, true_and, Bool.not_true, Bool.not_false, Option.map_none, List.map_cons, List.map_nil, bound_none, eq_self_iff_true, Bool.true_eq_false, load_ptr, loadC_cells, load_fptr, store_ptr, storeC_cells, get_putM, get_putN, get_cntS, get_leaf, cnt_putM, cnt_mkM, cells_agg, cells_i, cells_b, cells_s, cells_nsl, cells_fsl, cells_rsl, cells_ptr, cells_mp, one_i, one_b, one_s, one_nsl, one_fsl, one_rsl, one_ptr, one_mp, one_nptr, one_nmp, cut_ite, fillP_nil, fillP_cons, eqs_nil, eqs_cons, eqC_true, eqC_false, eq1O_some, eq1_i, eq1_b, eq1_s, List.take_succ_cons, List.take_zero, List.drop_succ_cons, List.drop_zero, List.cons_append, List.nil_append, List.append_nil, List.all_cons, List.all_nil, Bool.and_self, Bool.and_true, Bool.true_and, Nat.zero_add, Nat.add_zero, Nat.reduceLeDiff, Nat.le_refl, List.getElem?_cons_zero, List.getElem?_cons_succ, Nat.add_left_cancel_iff, Nat.left_eq_add, Nat.add_eq_left, not_false_eq_true, bne_tf, bne_ff, bne_tt, bne_ft, h1, hn0, h2, hw]
          refine ⟨nofun, _, rfl, ?_⟩
          simp only [tupV, ↓WC_seq, ↓WC_region, ↓WC_block, ↓WC_scope, ↓WC_skip, ↓WC_exit, ↓WC_ret, ↓WC_cond', ↓WO_cons, ↓WO_guard', ↓WO_nil, ↓WG_tt, ↓WG_tf, ↓WG_ft, ↓WG_ff, ↓WB_t, ↓WB_f, ↓WG_tup, ↓WI_true, ↓WI_false, ↓WV_some, ↓WV_none, ↓WV_ite, ↓WV_get, ↓WV_map_ite, ↓WV_mv, ↓WV_pick, ↓WV_alloc, ↓WV_box, ↓WV_build, ↓WV_bslice, ↓WV_load, ↓WV_store, ↓WV_nilck, ↓WV_bin, ↓WV_eqb, ↓WV_eqn, ↓WV_eqs, ↓WV_mkmap, ↓WV_lookup, ↓WV_mapup, ↓WV_mlen, ↓WV_srange, ↓WV_snext, ↓WV_mark, ↓WV_bad, ↓WV_un, ↓WV_conv, ↓WV_mkfn, ↓WV_mkbfn, ↓WV_mkslice, ↓WV_slice0, ↓WV_slice1, ↓WV_substr, ↓WV_fieldAddr, ↓WV_field, ↓WV_indexAddr0, ↓WV_indexAddr1, ↓WV_index, ↓WV_sindex, ↓WV_extract, ↓WV_call, ↓WV_calle, ↓WV_callq, ↓WV_callv, ↓WV_append, ↓WV_appstr, ↓WV_len, ↓WV_slen, ↓WV_alen, ↓WV_copy, ↓WV_min, ↓WV_max, WC_region, WC_cond', WO_cons, WO_guard', WO_nil, WG_tt, WG_tf, WG_ft, WG_ff, WB_t, WB_f, WB_b, WG_tup, WI_true, WI_false, WV_some, WV_ite, rd_t, rd_l, rd_c, wr_t, wr_l, wr_no, thenQ_nrm, thenQ_ex, thenQ_ret, blockQ_nrm, blockQ_ex, blockQ_ret, Env.get_put, Env.get_leaf, Nat.reduceAdd, Nat.reduceMul, Nat.reduceLT, Nat.reduceEqDiff, reduceIte, List.length_cons, List.length_nil, Nat.add_assoc, binP, ne_eq, not_true_eq_false, map_some, decide_eq_true_eq, decide_true, decide_false, WV_get, ofCells, Bool.false_eq_true, Int.toNat_natCast, and_true, true_and, Bool.not_true, Bool.not_false, Option.map_none, List.map_cons, List.map_nil, bound_none, eq_self_iff_true, Bool.true_eq_false, pickL, h1', h2']
          rfl
        · have h2' : ¬ x.tmod n < 0 := h2
          simp only [putArgs, ↓WC_seq, ↓WC_region, ↓WC_block, ↓WC_scope, ↓WC_skip, ↓WC_exit, ↓WC_ret, ↓WC_cond', ↓WO_cons, ↓WO_guard', ↓WO_nil, ↓WG_tt, ↓WG_tf, ↓WG_ft, ↓WG_ff, ↓WB_t, ↓WB_f, ↓WG_tup, ↓WI_true, ↓WI_false, ↓WV_some, ↓WV_none, ↓WV_ite, ↓WV_get, ↓WV_map_ite, ↓WV_mv, ↓WV_pick, ↓WV_alloc, ↓WV_box, ↓WV_build, ↓WV_bslice, ↓WV_load, ↓WV_store, ↓WV_nilck, ↓WV_bin, ↓WV_eqb, ↓WV_eqn, ↓WV_eqs, ↓WV_mkmap, ↓WV_lookup, ↓WV_mapup, ↓WV_mlen, ↓WV_srange, ↓WV_snext, ↓WV_mark, ↓WV_bad, ↓WV_un, ↓WV_conv, ↓WV_mkfn, ↓WV_mkbfn, ↓WV_mkslice, ↓WV_slice0, ↓WV_slice1, ↓WV_substr, ↓WV_fieldAddr, ↓WV_field, ↓WV_indexAddr0, ↓WV_indexAddr1, ↓WV_index, ↓WV_sindex, ↓WV_extract, ↓WV_call, ↓WV_calle, ↓WV_callq, ↓WV_callv, ↓WV_append, ↓WV_appstr, ↓WV_len, ↓WV_slen, ↓WV_alen, ↓WV_copy, ↓WV_min, ↓WV_max, WC_region, WC_cond', WO_cons, WO_guard', WO_nil, WG_tt, WG_tf, WG_ft, WG_ff, WB_t, WB_f, WB_b, WG_tup, WI_true, WI_false, WV_some, WV_ite, rd_t, rd_l, rd_c, wr_t, wr_l, wr_no, thenQ_nrm, thenQ_ex, thenQ_ret, blockQ_nrm, blockQ_ex, blockQ_ret, Env.get_put, Env.get_leaf, Nat.reduceAdd, Nat.reduceMul, Nat.reduceLT, Nat.reduceEqDiff, reduceIte, List.length_cons, List.length_nil, Nat.add_assoc, binP, ne_eq, not_true_eq_false, map_some, decide_eq_true_eq, decide_true, decide_false, WV_get, ofCells, Bool.false_eq_true, Int.toNat_natCast, and_true, true_and, Bool.not_true, Bool.not_false, Option.map_none, List.map_cons, List.map_nil, bound_none, eq_self_iff_true, Bool.true_eq_false, load_ptr, loadC_cells, load_fptr, store_ptr, storeC_cells, get_putM, get_putN, get_cntS, get_leaf, cnt_putM, cnt_mkM, cells_agg, cells_i, cells_b, cells_s, cells_nsl, cells_fsl, cells_rsl, cells_ptr, cells_mp, one_i, one_b, one_s, one_nsl, one_fsl, one_rsl, one_ptr, one_mp, one_nptr, one_nmp, cut_ite, fillP_nil, fillP_cons, eqs_nil, eqs_cons, eqC_true, eqC_false, eq1O_some, eq1_i, eq1_b, eq1_s, List.take_succ_cons, List.take_zero, List.drop_succ_cons, List.drop_zero, List.cons_append, List.nil_append, List.append_nil, List.all_cons, List.all_nil, Bool.and_self, Bool.and_true, Bool.true_and, Nat.zero_add, Nat.add_zero, Nat.reduceLeDiff, Nat.le_refl, List.getElem?_cons_zero, List.getElem?_cons_succ, Nat.add_left_cancel_iff, Nat.left_eq_add, Nat.add_eq_left, not_false_eq_true, bne_tf, bne_ff, bne_tt, bne_ft, h1, hn0, h2]
          refine ⟨nofun, _, rfl, ?_⟩
          simp only [tupV, ↓WC_seq, ↓WC_region, ↓WC_block, ↓WC_scope, ↓WC_skip, ↓WC_exit, ↓WC_ret, ↓WC_cond', ↓WO_cons, ↓WO_guard', ↓WO_nil, ↓WG_tt, ↓WG_tf, ↓WG_ft, ↓WG_ff, ↓WB_t, ↓WB_f, ↓WG_tup, ↓WI_true, ↓WI_false, ↓WV_some, ↓WV_none, ↓WV_ite, ↓WV_get, ↓WV_map_ite, ↓WV_mv, ↓WV_pick, ↓WV_alloc, ↓WV_box, ↓WV_build, ↓WV_bslice, ↓WV_load, ↓WV_store, ↓WV_nilck, ↓WV_bin, ↓WV_eqb, ↓WV_eqn, ↓WV_eqs, ↓WV_mkmap, ↓WV_lookup, ↓WV_mapup, ↓WV_mlen, ↓WV_srange, ↓WV_snext, ↓WV_mark, ↓WV_bad, ↓WV_un, ↓WV_conv, ↓WV_mkfn, ↓WV_mkbfn, ↓WV_mkslice, ↓WV_slice0, ↓WV_slice1, ↓WV_substr, ↓WV_fieldAddr, ↓WV_field, ↓WV_indexAddr0, ↓WV_indexAddr1, ↓WV_index, ↓WV_sindex, ↓WV_extract, ↓WV_call, ↓WV_calle, ↓WV_callq, ↓WV_callv, ↓WV_append, ↓WV_appstr, ↓WV_len, ↓WV_slen, ↓WV_alen, ↓WV_copy, ↓WV_min, ↓WV_max, WC_region, WC_cond', WO_cons, WO_guard', WO_nil, WG_tt, WG_tf, WG_ft, WG_ff, WB_t, WB_f, WB_b, WG_tup, WI_true, WI_false, WV_some, WV_ite, rd_t, rd_l, rd_c, wr_t, wr_l, wr_no, thenQ_nrm, thenQ_ex, thenQ_ret, blockQ_nrm, blockQ_ex, blockQ_ret, Env.get_put, Env.get_leaf, Nat.reduceAdd, Nat.reduceMul, Nat.reduceLT, Nat.reduceEqDiff, reduceIte, List.length_cons, List.length_nil, Nat.add_assoc, binP, ne_eq, not_true_eq_false, map_some, decide_eq_true_eq, decide_true, decide_false, WV_get, ofCells, Bool.false_eq_true, Int.toNat_natCast, and_true, true_and, Bool.not_true, Bool.not_false, Option.map_none, List.map_cons, List.map_nil, bound_none, eq_self_iff_true, Bool.true_eq_false, pickL, h1', h2']
          rfl
    · simp at h
  · simp at h
end Go.Pe
