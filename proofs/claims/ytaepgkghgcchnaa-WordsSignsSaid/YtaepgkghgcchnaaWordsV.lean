/-
  Words: a text is parted, to its last byte. No condition.
-/
import Derived.Test.YtaepgkghgcchnaaWordsU
set_option linter.unusedVariables false
set_option linter.unusedSimpArgs false
namespace Go.Pe
open Go Go.Am Go.RowKit

theorem callStep_val {g : List PV → Option PV} {st : St} {key : Nat} {ps : List PV} {r : PV} (hd : deepL st ps = some ps) (hk : keysL st ps = []) (hg : g ps = some r) (hr : recvRes st key r = some (r, st)) : callStep g false st key ps = some (r, st) := by
  unfold callStep
  simp only [hd, hg, hk, freezeK, ite_self, hr]
theorem hxL_wh : cfgL.ext 4 = none := rfl
theorem hfL_wh : cfgL.fn 4 = some m4 := by kernel_rfl
/-- what is passed over, as the law asks it -/
theorem is_over (D : List UInt8) (hl : D.length ≤ 16384) : gIs [.s (D.take (pass false D)), .i .i64 (.ofNat 0), .agg [.i .u8 (.ofNat 5), .s [], .i .i64 (.ofNat 0), .i .i64 ((cntS 10 (D.take (pass false D)) 0 : Int) + 1), .i .i64 ((D.take (pass false D)).length : Int), .i .i64 ((D.take (pass false D)).length : Int)]] = some (.b true) := by
  have hB : (D.take (pass false D)).length ≤ 16384 := by simp; omega
  have h1 := pass_over D
  have h2 := nextD_over D
  generalize D.take (pass false D) = B at *
  have g : gNext [.s B, .i .i64 (.ofNat 0)] = some (nextR B 0) := by
    unfold gNext
    show some (if 16384 < B.length then faultR 3 0 else if (0 : Int) < 0 ∨ (B.length : Int) < 0 then faultR 2 0 else nextR B 0) = _
    rw [if_neg (by omega), if_neg (by omega)]
  rw [nextR_eq (Nat.zero_le _)] at g
  simp only [List.drop_zero, Nat.zero_add, h1, h2, outR, lineOf, List.take_length, Nat.add_zero] at g
  unfold gIs
  exact if_pos g
/-- a token, as the law asks it -/
theorem is_alone {t : List UInt8} (hl : t.length ≤ 16384) (h0 : pass false t = 0) (ht : t ≠ []) {k : Int} {s : List UInt8} {n : Int} {l : Nat} (h : nextD t = some (k, s, n, l)) : gIs [.s (t.take l), .i .i64 (.ofNat 0), .agg [.i .u8 k, .s s, .i .i64 n, .i .i64 (.ofNat 1), .i .i64 (.ofNat 0), .i .i64 (l : Int)]] = some (.b true) := by
  have hle : l = endL t := by
    unfold nextD at h
    rw [h0] at h
    split at h
    · rename_i h1
      exact absurd (List.length_eq_zero_iff.1 h1.symm) ht
    · exact (tokD_len h).1
  have hB : (t.take l).length ≤ 16384 := by simp; omega
  obtain ⟨h1, h2⟩ := nextD_alone h0 ht
  rw [← hle] at h1 h2
  rw [h] at h2
  generalize t.take l = B at *
  have g : gNext [.s B, .i .i64 (.ofNat 0)] = some (nextR B 0) := by
    unfold gNext
    show some (if 16384 < B.length then faultR 3 0 else if (0 : Int) < 0 ∨ (B.length : Int) < 0 then faultR 2 0 else nextR B 0) = _
    rw [if_neg (by omega), if_neg (by omega)]
  rw [nextR_eq (Nat.zero_le _)] at g
  simp only [List.drop_zero, Nat.zero_add, h1, h2, outR, lineOf, List.take_zero] at g
  unfold gIs
  exact if_pos g
set_option maxHeartbeats 8000000 in
set_option maxRecDepth 100000 in
theorem whole_ev (text : List UInt8) : ∃ fuel, evP cfgL fuel 4 [.s text] = some (.b true) := by
  refine ⟨1003 + 1, evP_of hxL_wh rfl ?_⟩
  refine evFn_W hfL_wh ?_
  unfold m4
  obtain ⟨T, hT, hTl⟩ : ∃ T : List UInt8, text.take (min text.length 1000) = T ∧ T.length ≤ 1000 := ⟨_, rfl, by simp; omega⟩
  have hmin : minP (.i .i64 (text.length : Int)) [.i .i64 (Int.ofNat 1000)] = some (.i .i64 ((min text.length 1000 : Nat) : Int)) := by
    show some (PV.i .i64 _) = _
    congr 2
    show (if (1000 : Int) < (text.length : Int) then (1000 : Int) else (text.length : Int)) = _
    split <;> omega
  have hb0 : bound (some (.i .i64 ((min text.length 1000 : Nat) : Int))) text.length text.length = some (min text.length 1000) := bound_ok ⟨by omega, by omega⟩
  have hw0 : IntKind.i64.wrap ((T.length : Int) + Int.ofNat 1) = ((T.length + 1 : Nat) : Int) := by rw [wr_i64 _ ⟨by show _ ≤ (T.length : Int) + 1; omega, by show (T.length : Int) + 1 < _; omega⟩]; rfl
  simp only [putArgs, ↓WC_seq, ↓WC_region, ↓WC_block, ↓WC_scope, ↓WC_skip, ↓WC_exit, ↓WC_ret, ↓WC_cond', ↓WO_cons, ↓WO_guard', ↓WO_nil, ↓WG_tt, ↓WG_tf, ↓WG_ft, ↓WG_ff, ↓WB_t, ↓WB_f, ↓WG_tup, ↓WI_true, ↓WI_false, ↓WV_some, ↓WV_none, ↓WV_ite, ↓WV_get, ↓WV_map_ite, ↓WV_mv, ↓WV_pick, ↓WV_alloc, ↓WV_box, ↓WV_build, ↓WV_bslice, ↓WV_load, ↓WV_store, ↓WV_nilck, ↓WV_bin, ↓WV_eqb, ↓WV_eqn, ↓WV_eqs, ↓WV_mkmap, ↓WV_lookup, ↓WV_mapup, ↓WV_mlen, ↓WV_srange, ↓WV_snext, ↓WV_mark, ↓WV_bad, ↓WV_un, ↓WV_conv, ↓WV_mkfn, ↓WV_mkbfn, ↓WV_mkslice, ↓WV_slice0, ↓WV_slice1, ↓WV_substr, ↓WV_fieldAddr, ↓WV_field, ↓WV_indexAddr0, ↓WV_indexAddr1, ↓WV_index, ↓WV_sindex, ↓WV_extract, ↓WV_call, ↓WV_calle, ↓WV_callq, ↓WV_callv, ↓WV_append, ↓WV_appstr, ↓WV_len, ↓WV_slen, ↓WV_alen, ↓WV_copy, ↓WV_min, ↓WV_max, WC_region, WC_cond', WO_cons, WO_guard', WO_nil, WG_tt, WG_tf, WG_ft, WG_ff, WB_t, WB_f, WB_b, WG_tup, WI_true, WI_false, WV_some, WV_ite, rd_t, rd_l, rd_c, wr_t, wr_l, wr_no, thenQ_nrm, thenQ_ex, thenQ_ret, blockQ_nrm, blockQ_ex, blockQ_ret, Env.get_put, Env.get_leaf, Nat.reduceAdd, Nat.reduceMul, Nat.reduceLT, Nat.reduceEqDiff, reduceIte, List.length_cons, List.length_nil, Nat.add_assoc, binP, ne_eq, not_true_eq_false, map_some, decide_eq_true_eq, decide_true, decide_false, WV_get, ofCells, Bool.false_eq_true, Int.toNat_natCast, and_true, true_and, Bool.not_true, Bool.not_false, Option.map_none, List.map_cons, List.map_nil, bound_none, eq_self_iff_true, Bool.true_eq_false, load_ptr, loadC_cells, load_fptr, store_ptr, storeC_cells, get_putM, get_putN, get_cntS, get_leaf, cnt_putM, cnt_mkM, cells_agg, cells_i, cells_b, cells_s, cells_nsl, cells_fsl, cells_rsl, cells_ptr, cells_mp, one_i, one_b, one_s, one_nsl, one_fsl, one_rsl, one_ptr, one_mp, one_nptr, one_nmp, cut_ite, fillP_nil, fillP_cons, eqs_nil, eqs_cons, eqC_true, eqC_false, eq1O_some, eq1_i, eq1_b, eq1_s, List.take_succ_cons, List.take_zero, List.drop_succ_cons, List.drop_zero, List.cons_append, List.nil_append, List.append_nil, List.all_cons, List.all_nil, Bool.and_self, Bool.and_true, Bool.true_and, Nat.zero_add, Nat.add_zero, Nat.reduceLeDiff, Nat.le_refl, List.getElem?_cons_zero, List.getElem?_cons_succ, Nat.add_left_cancel_iff, Nat.left_eq_add, Nat.add_eq_left, not_false_eq_true, bne_tf, bne_ff, bne_tt, bne_ft, hmin, hb0, Nat.sub_zero, hT, hw0]
  refine WC_loop (k := T.length - 0) (fun d x => ∃ i at0 : Nat, i ≤ at0 ∧ at0 ≤ T.length ∧ d = T.length - i ∧ x.env.get 0 = .s T ∧ x.env.get 3 = .i .i64 at0 ∧ x.env.get 15 = .i .i64 ((T.length + 1 : Nat) : Int) ∧ x.env.get 16 = .i .i64 i) ?_ ⟨0, 0, Nat.le_refl _, Nat.zero_le _, rfl, ?_, ?_, ?_, ?_⟩ (by omega)
  · rintro d ⟨env, ⟨sto, c⟩⟩ ⟨i, at0, hi, hat, rfl, g0, g3, g15, g16⟩
    simp only at g0 g3 g15 g16
    have hlt : ((i : Nat) : Int) < ((T.length + 1 : Nat) : Int) := by omega
    have hwi : IntKind.i64.wrap ((i : Int) + Int.ofNat 1) = ((i + 1 : Nat) : Int) := by rw [wr_i64 _ ⟨by show _ ≤ (i : Int) + 1; omega, by show (i : Int) + 1 < _; omega⟩]; rfl
    obtain ⟨D, hD⟩ : ∃ D, T.drop at0 = D := ⟨_, rfl⟩
    have hDl : D.length = T.length - at0 := by rw [← hD]; simp
    have hpl := pass_le false D
    have g1 : gNext [.s T, .i .i64 at0] = some (nextR T at0) := by
      unfold gNext
      simp only [Int.toNat_natCast]
      rw [if_neg (by omega), if_neg (by omega)]
    rw [nextR_eq hat, hD] at g1
    have hnl := fun kd s n l => @nextD_len D kd s n l
    obtain ⟨a, ha⟩ : ∃ a, at0 + pass false D = a := ⟨_, rfl⟩
    rw [ha] at g1
    have haT : at0 ≤ a ∧ a ≤ T.length := by omega
    generalize lineOf T a = line at *
    cases hN : nextD D with
    | none =>
      rw [hN] at g1
      have c1 : ∀ (st : St) (key : Nat), callStep (runPure cfgL (evFn cfgL 1003) 7) false st key [.s T, .i .i64 at0] = some (.tup [.agg [.i .u8 0, .s [], .i .i64 0, .i .i64 0, .i .i64 0, .i .i64 0], .agg [.i .i64 100, .i .i64 line]], st) := by
        intro st key
        exact callStep_flat rfl (by rw [runPure_ext hxL_ne]; exact g1) rfl
      simp only [↓WC_seq, ↓WC_region, ↓WC_block, ↓WC_scope, ↓WC_skip, ↓WC_exit, ↓WC_ret, ↓WC_cond', ↓WO_cons, ↓WO_guard', ↓WO_nil, ↓WG_tt, ↓WG_tf, ↓WG_ft, ↓WG_ff, ↓WB_t, ↓WB_f, ↓WG_tup, ↓WI_true, ↓WI_false, ↓WV_some, ↓WV_none, ↓WV_ite, ↓WV_get, ↓WV_map_ite, ↓WV_mv, ↓WV_pick, ↓WV_alloc, ↓WV_box, ↓WV_build, ↓WV_bslice, ↓WV_load, ↓WV_store, ↓WV_nilck, ↓WV_bin, ↓WV_eqb, ↓WV_eqn, ↓WV_eqs, ↓WV_mkmap, ↓WV_lookup, ↓WV_mapup, ↓WV_mlen, ↓WV_srange, ↓WV_snext, ↓WV_mark, ↓WV_bad, ↓WV_un, ↓WV_conv, ↓WV_mkfn, ↓WV_mkbfn, ↓WV_mkslice, ↓WV_slice0, ↓WV_slice1, ↓WV_substr, ↓WV_fieldAddr, ↓WV_field, ↓WV_indexAddr0, ↓WV_indexAddr1, ↓WV_index, ↓WV_sindex, ↓WV_extract, ↓WV_call, ↓WV_calle, ↓WV_callq, ↓WV_callv, ↓WV_append, ↓WV_appstr, ↓WV_len, ↓WV_slen, ↓WV_alen, ↓WV_copy, ↓WV_min, ↓WV_max, WC_region, WC_cond', WO_cons, WO_guard', WO_nil, WG_tt, WG_tf, WG_ft, WG_ff, WB_t, WB_f, WB_b, WG_tup, WI_true, WI_false, WV_some, WV_ite, rd_t, rd_l, rd_c, wr_t, wr_l, wr_no, thenQ_nrm, thenQ_ex, thenQ_ret, blockQ_nrm, blockQ_ex, blockQ_ret, Env.get_put, Env.get_leaf, Nat.reduceAdd, Nat.reduceMul, Nat.reduceLT, Nat.reduceEqDiff, reduceIte, List.length_cons, List.length_nil, Nat.add_assoc, binP, ne_eq, not_true_eq_false, map_some, decide_eq_true_eq, decide_true, decide_false, WV_get, ofCells, Bool.false_eq_true, Int.toNat_natCast, and_true, true_and, Bool.not_true, Bool.not_false, Option.map_none, List.map_cons, List.map_nil, bound_none, eq_self_iff_true, Bool.true_eq_false, load_ptr, loadC_cells, load_fptr, store_ptr, storeC_cells, get_putM, get_putN, get_cntS, get_leaf, cnt_putM, cnt_mkM, cells_agg, cells_i, cells_b, cells_s, cells_nsl, cells_fsl, cells_rsl, cells_ptr, cells_mp, one_i, one_b, one_s, one_nsl, one_fsl, one_rsl, one_ptr, one_mp, one_nptr, one_nmp, cut_ite, fillP_nil, fillP_cons, eqs_nil, eqs_cons, eqC_true, eqC_false, eq1O_some, eq1_i, eq1_b, eq1_s, List.take_succ_cons, List.take_zero, List.drop_succ_cons, List.drop_zero, List.cons_append, List.nil_append, List.append_nil, List.all_cons, List.all_nil, Bool.and_self, Bool.and_true, Bool.true_and, Nat.zero_add, Nat.add_zero, Nat.reduceLeDiff, Nat.le_refl, List.getElem?_cons_zero, List.getElem?_cons_succ, Nat.add_left_cancel_iff, Nat.left_eq_add, Nat.add_eq_left, not_false_eq_true, bne_tf, bne_ff, bne_tt, bne_ft, g0, g3, g15, g16, hlt, c1, show ((100 : Int) != Int.ofNat 0) = true from rfl, show ((100 : Int) == Int.ofNat 100) = true from rfl, show ((0 : Int) == Int.ofNat 0) = true from rfl, beq_self_eq_true, call_awake]
      refine ⟨nofun, _, rfl, ?_⟩
      simp only [tupV, ↓WC_seq, ↓WC_region, ↓WC_block, ↓WC_scope, ↓WC_skip, ↓WC_exit, ↓WC_ret, ↓WC_cond', ↓WO_cons, ↓WO_guard', ↓WO_nil, ↓WG_tt, ↓WG_tf, ↓WG_ft, ↓WG_ff, ↓WB_t, ↓WB_f, ↓WG_tup, ↓WI_true, ↓WI_false, ↓WV_some, ↓WV_none, ↓WV_ite, ↓WV_get, ↓WV_map_ite, ↓WV_mv, ↓WV_pick, ↓WV_alloc, ↓WV_box, ↓WV_build, ↓WV_bslice, ↓WV_load, ↓WV_store, ↓WV_nilck, ↓WV_bin, ↓WV_eqb, ↓WV_eqn, ↓WV_eqs, ↓WV_mkmap, ↓WV_lookup, ↓WV_mapup, ↓WV_mlen, ↓WV_srange, ↓WV_snext, ↓WV_mark, ↓WV_bad, ↓WV_un, ↓WV_conv, ↓WV_mkfn, ↓WV_mkbfn, ↓WV_mkslice, ↓WV_slice0, ↓WV_slice1, ↓WV_substr, ↓WV_fieldAddr, ↓WV_field, ↓WV_indexAddr0, ↓WV_indexAddr1, ↓WV_index, ↓WV_sindex, ↓WV_extract, ↓WV_call, ↓WV_calle, ↓WV_callq, ↓WV_callv, ↓WV_append, ↓WV_appstr, ↓WV_len, ↓WV_slen, ↓WV_alen, ↓WV_copy, ↓WV_min, ↓WV_max, WC_region, WC_cond', WO_cons, WO_guard', WO_nil, WG_tt, WG_tf, WG_ft, WG_ff, WB_t, WB_f, WB_b, WG_tup, WI_true, WI_false, WV_some, WV_ite, rd_t, rd_l, rd_c, wr_t, wr_l, wr_no, thenQ_nrm, thenQ_ex, thenQ_ret, blockQ_nrm, blockQ_ex, blockQ_ret, Env.get_put, Env.get_leaf, Nat.reduceAdd, Nat.reduceMul, Nat.reduceLT, Nat.reduceEqDiff, reduceIte, List.length_cons, List.length_nil, Nat.add_assoc, binP, ne_eq, not_true_eq_false, map_some, decide_eq_true_eq, decide_true, decide_false, WV_get, ofCells, Bool.false_eq_true, Int.toNat_natCast, and_true, true_and, Bool.not_true, Bool.not_false, Option.map_none, List.map_cons, List.map_nil, bound_none, eq_self_iff_true, Bool.true_eq_false]
      rfl
    | some x =>
      obtain ⟨kd, s, n, l⟩ := x
      rw [hN] at g1
      have hl := hnl kd s n l hN
      have c1 : ∀ (st : St) (key : Nat), callStep (runPure cfgL (evFn cfgL 1003) 7) false st key [.s T, .i .i64 at0] = some (.tup [.agg [.i .u8 kd, .s s, .i .i64 n, .i .i64 line, .i .i64 (a : Int), .i .i64 ((a + l : Nat) : Int)], .agg [.i .i64 0, .i .i64 0]], st) := by
        intro st key
        exact callStep_flat rfl (by rw [runPure_ext hxL_ne]; exact g1) rfl
      have n1 : ¬ ((a : Int) < (at0 : Int)) := by omega
      have n2 : ¬ (((a + l : Nat) : Int) < (a : Int)) := by omega
      have n3 : ¬ (((a + l : Nat) : Int) > (T.length : Int)) := by omega
      have b1 : bound (some (.i .i64 (a : Int))) T.length T.length = some a := bound_ok ⟨by omega, by omega⟩
      have b2 : bound (some (.i .i64 (at0 : Int))) 0 a = some at0 := bound_ok ⟨by omega, by omega⟩
      have hover := is_over D (by omega)
      have eB : List.take (a - at0) D = D.take (pass false D) := by rw [← ha]; simp
      have hcB := cnt_le (D.take (pass false D))
      have hlB : (D.take (pass false D)).length ≤ 1000 := by simp; omega
      generalize D.take (pass false D) = B at *
      have c2 : ∀ (st : St) (key : Nat), callStep (runPure cfgL (evFn cfgL 1003) 11) false st key [.s B, .s [10]] = some (.i .i64 (cntS 10 B 0), st) := by
        intro st key
        exact callStep_flat rfl (by rw [runPure_ext hxL_ct]; rfl) rfl
      have hwc : IntKind.i64.wrap (Int.ofNat 1 + (cntS 10 B 0 : Int)) = (cntS 10 B 0 : Int) + 1 := by rw [wr_i64 _ ⟨by show _ ≤ (1 : Int) + _; omega, by show (1 : Int) + _ < _; omega⟩]; show (1 : Int) + _ = _; omega
      have c3 : ∀ (st : St) (key : Nat), callStep (runPure cfgL (evFn cfgL 1003) 10) false st key [.s B, .i .i64 (.ofNat 0), .agg [.i .u8 (.ofNat 5), .s [], .i .i64 (.ofNat 0), .i .i64 ((cntS 10 B 0 : Int) + 1), .i .i64 (B.length : Int), .i .i64 (B.length : Int)]] = some (.b true, st) := by
        intro st key
        exact callStep_val rfl rfl (by rw [runPure_ext hxL_is]; exact hover) rfl
      by_cases hp : pass false D = D.length
      · have hN' : nextD D = some (5, [], 0, 0) := by unfold nextD; rw [if_pos hp]
        rw [hN] at hN'
        simp only [Option.some.injEq, Prod.mk.injEq] at hN'
        obtain ⟨rfl, rfl, rfl, rfl⟩ := hN'
        have ea : ((a : Int) == (T.length : Int)) = true := by rw [show a = T.length by omega]; simp
        simp only [Nat.add_zero] at c1 n2 n3
        simp only [↓WC_seq, ↓WC_region, ↓WC_block, ↓WC_scope, ↓WC_skip, ↓WC_exit, ↓WC_ret, ↓WC_cond', ↓WO_cons, ↓WO_guard', ↓WO_nil, ↓WG_tt, ↓WG_tf, ↓WG_ft, ↓WG_ff, ↓WB_t, ↓WB_f, ↓WG_tup, ↓WI_true, ↓WI_false, ↓WV_some, ↓WV_none, ↓WV_ite, ↓WV_get, ↓WV_map_ite, ↓WV_mv, ↓WV_pick, ↓WV_alloc, ↓WV_box, ↓WV_build, ↓WV_bslice, ↓WV_load, ↓WV_store, ↓WV_nilck, ↓WV_bin, ↓WV_eqb, ↓WV_eqn, ↓WV_eqs, ↓WV_mkmap, ↓WV_lookup, ↓WV_mapup, ↓WV_mlen, ↓WV_srange, ↓WV_snext, ↓WV_mark, ↓WV_bad, ↓WV_un, ↓WV_conv, ↓WV_mkfn, ↓WV_mkbfn, ↓WV_mkslice, ↓WV_slice0, ↓WV_slice1, ↓WV_substr, ↓WV_fieldAddr, ↓WV_field, ↓WV_indexAddr0, ↓WV_indexAddr1, ↓WV_index, ↓WV_sindex, ↓WV_extract, ↓WV_call, ↓WV_calle, ↓WV_callq, ↓WV_callv, ↓WV_append, ↓WV_appstr, ↓WV_len, ↓WV_slen, ↓WV_alen, ↓WV_copy, ↓WV_min, ↓WV_max, WC_region, WC_cond', WO_cons, WO_guard', WO_nil, WG_tt, WG_tf, WG_ft, WG_ff, WB_t, WB_f, WB_b, WG_tup, WI_true, WI_false, WV_some, WV_ite, rd_t, rd_l, rd_c, wr_t, wr_l, wr_no, thenQ_nrm, thenQ_ex, thenQ_ret, blockQ_nrm, blockQ_ex, blockQ_ret, Env.get_put, Env.get_leaf, Nat.reduceAdd, Nat.reduceMul, Nat.reduceLT, Nat.reduceEqDiff, reduceIte, List.length_cons, List.length_nil, Nat.add_assoc, binP, ne_eq, not_true_eq_false, map_some, decide_eq_true_eq, decide_true, decide_false, WV_get, ofCells, Bool.false_eq_true, Int.toNat_natCast, and_true, true_and, Bool.not_true, Bool.not_false, Option.map_none, List.map_cons, List.map_nil, bound_none, eq_self_iff_true, Bool.true_eq_false, load_ptr, loadC_cells, load_fptr, store_ptr, storeC_cells, get_putM, get_putN, get_cntS, get_leaf, cnt_putM, cnt_mkM, cells_agg, cells_i, cells_b, cells_s, cells_nsl, cells_fsl, cells_rsl, cells_ptr, cells_mp, one_i, one_b, one_s, one_nsl, one_fsl, one_rsl, one_ptr, one_mp, one_nptr, one_nmp, cut_ite, fillP_nil, fillP_cons, eqs_nil, eqs_cons, eqC_true, eqC_false, eq1O_some, eq1_i, eq1_b, eq1_s, List.take_succ_cons, List.take_zero, List.drop_succ_cons, List.drop_zero, List.cons_append, List.nil_append, List.append_nil, List.all_cons, List.all_nil, Bool.and_self, Bool.and_true, Bool.true_and, Nat.zero_add, Nat.add_zero, Nat.reduceLeDiff, Nat.le_refl, List.getElem?_cons_zero, List.getElem?_cons_succ, Nat.add_left_cancel_iff, Nat.left_eq_add, Nat.add_eq_left, not_false_eq_true, bne_tf, bne_ff, bne_tt, bne_ft, g0, g3, g15, g16, hlt, c1, show ((0 : Int) != Int.ofNat 0) = false from rfl, n1, n2, n3, b1, b2, hD, eB, c2, hwc, c3, unP, show ((5 : Int) == Int.ofNat 5) = true from rfl, ea, beq_self_eq_true, call_awake]
        refine ⟨nofun, _, rfl, ?_⟩
        simp only [tupV, ↓WC_seq, ↓WC_region, ↓WC_block, ↓WC_scope, ↓WC_skip, ↓WC_exit, ↓WC_ret, ↓WC_cond', ↓WO_cons, ↓WO_guard', ↓WO_nil, ↓WG_tt, ↓WG_tf, ↓WG_ft, ↓WG_ff, ↓WB_t, ↓WB_f, ↓WG_tup, ↓WI_true, ↓WI_false, ↓WV_some, ↓WV_none, ↓WV_ite, ↓WV_get, ↓WV_map_ite, ↓WV_mv, ↓WV_pick, ↓WV_alloc, ↓WV_box, ↓WV_build, ↓WV_bslice, ↓WV_load, ↓WV_store, ↓WV_nilck, ↓WV_bin, ↓WV_eqb, ↓WV_eqn, ↓WV_eqs, ↓WV_mkmap, ↓WV_lookup, ↓WV_mapup, ↓WV_mlen, ↓WV_srange, ↓WV_snext, ↓WV_mark, ↓WV_bad, ↓WV_un, ↓WV_conv, ↓WV_mkfn, ↓WV_mkbfn, ↓WV_mkslice, ↓WV_slice0, ↓WV_slice1, ↓WV_substr, ↓WV_fieldAddr, ↓WV_field, ↓WV_indexAddr0, ↓WV_indexAddr1, ↓WV_index, ↓WV_sindex, ↓WV_extract, ↓WV_call, ↓WV_calle, ↓WV_callq, ↓WV_callv, ↓WV_append, ↓WV_appstr, ↓WV_len, ↓WV_slen, ↓WV_alen, ↓WV_copy, ↓WV_min, ↓WV_max, WC_region, WC_cond', WO_cons, WO_guard', WO_nil, WG_tt, WG_tf, WG_ft, WG_ff, WB_t, WB_f, WB_b, WG_tup, WI_true, WI_false, WV_some, WV_ite, rd_t, rd_l, rd_c, wr_t, wr_l, wr_no, thenQ_nrm, thenQ_ex, thenQ_ret, blockQ_nrm, blockQ_ex, blockQ_ret, Env.get_put, Env.get_leaf, Nat.reduceAdd, Nat.reduceMul, Nat.reduceLT, Nat.reduceEqDiff, reduceIte, List.length_cons, List.length_nil, Nat.add_assoc, binP, ne_eq, not_true_eq_false, map_some, decide_eq_true_eq, decide_true, decide_false, WV_get, ofCells, Bool.false_eq_true, Int.toNat_natCast, and_true, true_and, Bool.not_true, Bool.not_false, Option.map_none, List.map_cons, List.map_nil, bound_none, eq_self_iff_true, Bool.true_eq_false]
        rfl
      · have hN' : nextD D = tokD (D.drop (pass false D)) := by unfold nextD; rw [if_neg hp]
        have hne : D.drop (pass false D) ≠ [] := by
          intro h0
          have := congrArg List.length h0
          simp only [List.length_drop, List.length_nil] at this
          omega
        have hps := pass_stop false D
        have hk := tokD_len (hN'.symm.trans hN)
        have hl0 : 0 < l := by rw [hk.1]; exact endL_pos hne
        have hal := is_alone (t := D.drop (pass false D)) (by simp; omega) hps hne (k := kd) (s := s) (n := n) (l := l) (by
          have : nextD (D.drop (pass false D)) = tokD (D.drop (pass false D)) := by
            unfold nextD
            rw [hps, if_neg (by intro h0; exact hne (List.length_eq_zero_iff.1 h0.symm))]
            rfl
          rw [this, ← hN']; exact hN)
        have eD : T.drop a = D.drop (pass false D) := by rw [← ha, ← List.drop_drop, hD]
        have eC : List.take (a + l - a) (D.drop (pass false D)) = (D.drop (pass false D)).take l := by rw [Nat.add_sub_cancel_left]
        generalize hC : (D.drop (pass false D)).take l = C at *
        have k5 : (kd == Int.ofNat 5) = false := by simpa using hk.2
        have nl : (((a + l : Nat) : Int) == (a : Int)) = false := by simp only [beq_eq_false_iff_ne, ne_eq]; omega
        have b3 : bound (some (.i .i64 ((a + l : Nat) : Int))) T.length T.length = some (a + l) := bound_ok ⟨by omega, by omega⟩
        have b4 : bound (some (.i .i64 (a : Int))) 0 (a + l) = some a := bound_ok ⟨by omega, by omega⟩
        have hws : IntKind.i64.wrap (((a + l : Nat) : Int) - (a : Int)) = (l : Int) := by rw [wr_i64 _ (by omega)]; omega
        have d1 : ∀ st : St, deepL st [.s C, .i .i64 (.ofNat 0), .agg [.i .u8 kd, .s s, .i .i64 n, .i .i64 (.ofNat 1), .i .i64 (.ofNat 0), .i .i64 (l : Int)]] = some [.s C, .i .i64 (.ofNat 0), .agg [.i .u8 kd, .s s, .i .i64 n, .i .i64 (.ofNat 1), .i .i64 (.ofNat 0), .i .i64 (l : Int)]] := fun st => rfl
        have c4 : runPure cfgL (evFn cfgL 1003) 10 [.s C, .i .i64 (.ofNat 0), .agg [.i .u8 kd, .s s, .i .i64 n, .i .i64 (.ofNat 1), .i .i64 (.ofNat 0), .i .i64 (l : Int)]] = some (.b true) := by rw [runPure_ext hxL_is]; exact hal
        have cl : PV.closedB (.b true) = true := rfl
        have rr : ∀ (st : St) (key : Nat), recvRes st key (.b true) = some (.b true, st) := fun _ _ => rfl
        simp only [↓WC_seq, ↓WC_region, ↓WC_block, ↓WC_scope, ↓WC_skip, ↓WC_exit, ↓WC_ret, ↓WC_cond', ↓WO_cons, ↓WO_guard', ↓WO_nil, ↓WG_tt, ↓WG_tf, ↓WG_ft, ↓WG_ff, ↓WB_t, ↓WB_f, ↓WG_tup, ↓WI_true, ↓WI_false, ↓WV_some, ↓WV_none, ↓WV_ite, ↓WV_get, ↓WV_map_ite, ↓WV_mv, ↓WV_pick, ↓WV_alloc, ↓WV_box, ↓WV_build, ↓WV_bslice, ↓WV_load, ↓WV_store, ↓WV_nilck, ↓WV_bin, ↓WV_eqb, ↓WV_eqn, ↓WV_eqs, ↓WV_mkmap, ↓WV_lookup, ↓WV_mapup, ↓WV_mlen, ↓WV_srange, ↓WV_snext, ↓WV_mark, ↓WV_bad, ↓WV_un, ↓WV_conv, ↓WV_mkfn, ↓WV_mkbfn, ↓WV_mkslice, ↓WV_slice0, ↓WV_slice1, ↓WV_substr, ↓WV_fieldAddr, ↓WV_field, ↓WV_indexAddr0, ↓WV_indexAddr1, ↓WV_index, ↓WV_sindex, ↓WV_extract, ↓WV_call, ↓WV_calle, ↓WV_callq, ↓WV_callv, ↓WV_append, ↓WV_appstr, ↓WV_len, ↓WV_slen, ↓WV_alen, ↓WV_copy, ↓WV_min, ↓WV_max, WC_region, WC_cond', WO_cons, WO_guard', WO_nil, WG_tt, WG_tf, WG_ft, WG_ff, WB_t, WB_f, WB_b, WG_tup, WI_true, WI_false, WV_some, WV_ite, rd_t, rd_l, rd_c, wr_t, wr_l, wr_no, thenQ_nrm, thenQ_ex, thenQ_ret, blockQ_nrm, blockQ_ex, blockQ_ret, Env.get_put, Env.get_leaf, Nat.reduceAdd, Nat.reduceMul, Nat.reduceLT, Nat.reduceEqDiff, reduceIte, List.length_cons, List.length_nil, Nat.add_assoc, binP, ne_eq, not_true_eq_false, map_some, decide_eq_true_eq, decide_true, decide_false, WV_get, ofCells, Bool.false_eq_true, Int.toNat_natCast, and_true, true_and, Bool.not_true, Bool.not_false, Option.map_none, List.map_cons, List.map_nil, bound_none, eq_self_iff_true, Bool.true_eq_false, load_ptr, loadC_cells, load_fptr, store_ptr, storeC_cells, get_putM, get_putN, get_cntS, get_leaf, cnt_putM, cnt_mkM, cells_agg, cells_i, cells_b, cells_s, cells_nsl, cells_fsl, cells_rsl, cells_ptr, cells_mp, one_i, one_b, one_s, one_nsl, one_fsl, one_rsl, one_ptr, one_mp, one_nptr, one_nmp, cut_ite, fillP_nil, fillP_cons, eqs_nil, eqs_cons, eqC_true, eqC_false, eq1O_some, eq1_i, eq1_b, eq1_s, List.take_succ_cons, List.take_zero, List.drop_succ_cons, List.drop_zero, List.cons_append, List.nil_append, List.append_nil, List.all_cons, List.all_nil, Bool.and_self, Bool.and_true, Bool.true_and, Nat.zero_add, Nat.add_zero, Nat.reduceLeDiff, Nat.le_refl, List.getElem?_cons_zero, List.getElem?_cons_succ, Nat.add_left_cancel_iff, Nat.left_eq_add, Nat.add_eq_left, not_false_eq_true, bne_tf, bne_ff, bne_tt, bne_ft, g0, g3, g15, g16, hlt, c1, show ((0 : Int) != Int.ofNat 0) = false from rfl, n1, n2, n3, b1, b2, hD, eB, c2, hwc, c3, unP, k5, nl, hws, b3, b4, eD, eC, d1, c4, cl, rr, hwi]
        exact ⟨T.length - (i + 1), by omega, i + 1, a + l, by omega, by omega, rfl, rfl, rfl⟩
  · simp [Env.get_put]
  · simp [Env.get_put]
  · simp [Env.get_put]
  · simp [Env.get_put]
end Go.Pe
