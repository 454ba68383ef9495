/-
  Words: a text that is too long, a place that there is not. No condition.
-/
import Derived.Test.YtaepgkghgcchnaaWordsP
set_option linter.unusedVariables false
set_option linter.unusedSimpArgs false
namespace Go.Pe
open Go Go.Am Go.RowKit

set_option maxHeartbeats 4000000 in
set_option maxRecDepth 100000 in
theorem next_long {fuel : Nat} {text : List UInt8} {at0 : Int} (hlen : 16384 < text.length) :
    ∃ r st', evFn cfgW (fuel + 1) 7 [.s text, .i .i64 at0] { sto := .leaf, cnt := 1 } = some (r, st') ∧ r = faultR 3 0 := by
  refine evFn_W hf_ne ?_
  unfold m7
  have h1 : ((text.length : Nat) : Int) > Int.ofNat 16384 := by show ((text.length : Nat) : Int) > 16384; omega
  have ez : fillP zW [] = some zW := rfl
  have ef : fillP [.i .i64 (.ofNat 0), .i .i64 (.ofNat 0)] [(0, 1, .i .i64 (.ofNat 3))] = some [.i .i64 (.ofNat 3), .i .i64 (.ofNat 0)] := rfl
  have ez' : fillP [.i .u8 (.ofNat 0), .s [], .i .i64 (.ofNat 0), .i .i64 (.ofNat 0), .i .i64 (.ofNat 0), .i .i64 (.ofNat 0)] [] = some zW := rfl
  simp only [putArgs, ↓WC_seq, ↓WC_region, ↓WC_block, ↓WC_scope, ↓WC_skip, ↓WC_exit, ↓WC_ret, ↓WC_cond', ↓WO_cons, ↓WO_guard', ↓WO_nil, ↓WG_tt, ↓WG_tf, ↓WG_ft, ↓WG_ff, ↓WB_t, ↓WB_f, ↓WG_tup, ↓WI_true, ↓WI_false, ↓WV_some, ↓WV_none, ↓WV_ite, ↓WV_get, ↓WV_map_ite, ↓WV_mv, ↓WV_pick, ↓WV_alloc, ↓WV_box, ↓WV_build, ↓WV_bslice, ↓WV_load, ↓WV_store, ↓WV_nilck, ↓WV_bin, ↓WV_eqb, ↓WV_eqn, ↓WV_eqs, ↓WV_mkmap, ↓WV_lookup, ↓WV_mapup, ↓WV_mlen, ↓WV_srange, ↓WV_snext, ↓WV_mark, ↓WV_bad, ↓WV_un, ↓WV_conv, ↓WV_mkfn, ↓WV_mkbfn, ↓WV_mkslice, ↓WV_slice0, ↓WV_slice1, ↓WV_substr, ↓WV_fieldAddr, ↓WV_field, ↓WV_indexAddr0, ↓WV_indexAddr1, ↓WV_index, ↓WV_sindex, ↓WV_extract, ↓WV_call, ↓WV_calle, ↓WV_callq, ↓WV_callv, ↓WV_append, ↓WV_appstr, ↓WV_len, ↓WV_slen, ↓WV_alen, ↓WV_copy, ↓WV_min, ↓WV_max, WC_region, WC_cond', WO_cons, WO_guard', WO_nil, WG_tt, WG_tf, WG_ft, WG_ff, WB_t, WB_f, WB_b, WG_tup, WI_true, WI_false, WV_some, WV_ite, rd_t, rd_l, rd_c, wr_t, wr_l, wr_no, thenQ_nrm, thenQ_ex, thenQ_ret, blockQ_nrm, blockQ_ex, blockQ_ret, Env.get_put, Env.get_leaf, Nat.reduceAdd, Nat.reduceMul, Nat.reduceLT, Nat.reduceEqDiff, reduceIte, List.length_cons, List.length_nil, Nat.add_assoc, binP, ne_eq, not_true_eq_false, map_some, decide_eq_true_eq, decide_true, decide_false, WV_get, ofCells, Bool.false_eq_true, Int.toNat_natCast, and_true, true_and, Bool.not_true, Bool.not_false, Option.map_none, List.map_cons, List.map_nil, bound_none, eq_self_iff_true, Bool.true_eq_false, h1, ez', ef]
  refine finish ?_ ?_ (w := zW) (w0 := zW) (f := [.i .i64 (.ofNat 3), .i .i64 (.ofNat 0)]) (f0 := [.i .i64 (.ofNat 0), .i .i64 (.ofNat 0)]) ?_ ?_ rfl rfl rfl rfl rfl rfl rfl
  · simp [Env.get_put]
  · simp [Env.get_put]
  · rw [St.get_cnt, St.get_put_ne (by decide), St.get_putk]; rfl
  · rw [St.get_cnt, St.get_putk]
set_option maxHeartbeats 4000000 in
set_option maxRecDepth 100000 in
theorem next_below {fuel : Nat} {text : List UInt8} {at0 : Int} (hlen : text.length ≤ 16384) (hat : at0 < 0) :
    ∃ r st', evFn cfgW (fuel + 1) 7 [.s text, .i .i64 at0] { sto := .leaf, cnt := 1 } = some (r, st') ∧ r = faultR 2 0 := by
  refine evFn_W hf_ne ?_
  unfold m7
  have h1 : ¬ (((text.length : Nat) : Int) > Int.ofNat 16384) := by show ¬ (((text.length : Nat) : Int) > 16384); omega
  have h2 : at0 < Int.ofNat 0 := hat
  have ez : fillP zW [] = some zW := rfl
  have ef : fillP [.i .i64 (.ofNat 0), .i .i64 (.ofNat 0)] [(0, 1, .i .i64 (.ofNat 2))] = some [.i .i64 (.ofNat 2), .i .i64 (.ofNat 0)] := rfl
  have ez' : fillP [.i .u8 (.ofNat 0), .s [], .i .i64 (.ofNat 0), .i .i64 (.ofNat 0), .i .i64 (.ofNat 0), .i .i64 (.ofNat 0)] [] = some zW := rfl
  simp only [putArgs, ↓WC_seq, ↓WC_region, ↓WC_block, ↓WC_scope, ↓WC_skip, ↓WC_exit, ↓WC_ret, ↓WC_cond', ↓WO_cons, ↓WO_guard', ↓WO_nil, ↓WG_tt, ↓WG_tf, ↓WG_ft, ↓WG_ff, ↓WB_t, ↓WB_f, ↓WG_tup, ↓WI_true, ↓WI_false, ↓WV_some, ↓WV_none, ↓WV_ite, ↓WV_get, ↓WV_map_ite, ↓WV_mv, ↓WV_pick, ↓WV_alloc, ↓WV_box, ↓WV_build, ↓WV_bslice, ↓WV_load, ↓WV_store, ↓WV_nilck, ↓WV_bin, ↓WV_eqb, ↓WV_eqn, ↓WV_eqs, ↓WV_mkmap, ↓WV_lookup, ↓WV_mapup, ↓WV_mlen, ↓WV_srange, ↓WV_snext, ↓WV_mark, ↓WV_bad, ↓WV_un, ↓WV_conv, ↓WV_mkfn, ↓WV_mkbfn, ↓WV_mkslice, ↓WV_slice0, ↓WV_slice1, ↓WV_substr, ↓WV_fieldAddr, ↓WV_field, ↓WV_indexAddr0, ↓WV_indexAddr1, ↓WV_index, ↓WV_sindex, ↓WV_extract, ↓WV_call, ↓WV_calle, ↓WV_callq, ↓WV_callv, ↓WV_append, ↓WV_appstr, ↓WV_len, ↓WV_slen, ↓WV_alen, ↓WV_copy, ↓WV_min, ↓WV_max, WC_region, WC_cond', WO_cons, WO_guard', WO_nil, WG_tt, WG_tf, WG_ft, WG_ff, WB_t, WB_f, WB_b, WG_tup, WI_true, WI_false, WV_some, WV_ite, rd_t, rd_l, rd_c, wr_t, wr_l, wr_no, thenQ_nrm, thenQ_ex, thenQ_ret, blockQ_nrm, blockQ_ex, blockQ_ret, Env.get_put, Env.get_leaf, Nat.reduceAdd, Nat.reduceMul, Nat.reduceLT, Nat.reduceEqDiff, reduceIte, List.length_cons, List.length_nil, Nat.add_assoc, binP, ne_eq, not_true_eq_false, map_some, decide_eq_true_eq, decide_true, decide_false, WV_get, ofCells, Bool.false_eq_true, Int.toNat_natCast, and_true, true_and, Bool.not_true, Bool.not_false, Option.map_none, List.map_cons, List.map_nil, bound_none, eq_self_iff_true, Bool.true_eq_false, h1, h2, ez', ef]
  refine finish ?_ ?_ (w := zW) (w0 := zW) (f := [.i .i64 (.ofNat 2), .i .i64 (.ofNat 0)]) (f0 := [.i .i64 (.ofNat 0), .i .i64 (.ofNat 0)]) ?_ ?_ rfl rfl rfl rfl rfl rfl rfl
  · simp [Env.get_put]
  · simp [Env.get_put]
  · rw [St.get_cnt, St.get_put_ne (by decide), St.get_putk]; rfl
  · rw [St.get_cnt, St.get_putk]
set_option maxHeartbeats 4000000 in
set_option maxRecDepth 100000 in
theorem next_above {fuel : Nat} {text : List UInt8} {at0 : Int} (hlen : text.length ≤ 16384) (hat : (text.length : Int) < at0) :
    ∃ r st', evFn cfgW (fuel + 1) 7 [.s text, .i .i64 at0] { sto := .leaf, cnt := 1 } = some (r, st') ∧ r = faultR 2 0 := by
  refine evFn_W hf_ne ?_
  unfold m7
  have h1 : ¬ (((text.length : Nat) : Int) > Int.ofNat 16384) := by show ¬ (((text.length : Nat) : Int) > 16384); omega
  have h2 : ¬ (at0 < Int.ofNat 0) := by show ¬ (at0 < 0); omega
  have h3 : at0 > ((text.length : Nat) : Int) := hat
  have ez : fillP zW [] = some zW := rfl
  have ef : fillP [.i .i64 (.ofNat 0), .i .i64 (.ofNat 0)] [(0, 1, .i .i64 (.ofNat 2))] = some [.i .i64 (.ofNat 2), .i .i64 (.ofNat 0)] := rfl
  have ez' : fillP [.i .u8 (.ofNat 0), .s [], .i .i64 (.ofNat 0), .i .i64 (.ofNat 0), .i .i64 (.ofNat 0), .i .i64 (.ofNat 0)] [] = some zW := rfl
  simp only [putArgs, ↓WC_seq, ↓WC_region, ↓WC_block, ↓WC_scope, ↓WC_skip, ↓WC_exit, ↓WC_ret, ↓WC_cond', ↓WO_cons, ↓WO_guard', ↓WO_nil, ↓WG_tt, ↓WG_tf, ↓WG_ft, ↓WG_ff, ↓WB_t, ↓WB_f, ↓WG_tup, ↓WI_true, ↓WI_false, ↓WV_some, ↓WV_none, ↓WV_ite, ↓WV_get, ↓WV_map_ite, ↓WV_mv, ↓WV_pick, ↓WV_alloc, ↓WV_box, ↓WV_build, ↓WV_bslice, ↓WV_load, ↓WV_store, ↓WV_nilck, ↓WV_bin, ↓WV_eqb, ↓WV_eqn, ↓WV_eqs, ↓WV_mkmap, ↓WV_lookup, ↓WV_mapup, ↓WV_mlen, ↓WV_srange, ↓WV_snext, ↓WV_mark, ↓WV_bad, ↓WV_un, ↓WV_conv, ↓WV_mkfn, ↓WV_mkbfn, ↓WV_mkslice, ↓WV_slice0, ↓WV_slice1, ↓WV_substr, ↓WV_fieldAddr, ↓WV_field, ↓WV_indexAddr0, ↓WV_indexAddr1, ↓WV_index, ↓WV_sindex, ↓WV_extract, ↓WV_call, ↓WV_calle, ↓WV_callq, ↓WV_callv, ↓WV_append, ↓WV_appstr, ↓WV_len, ↓WV_slen, ↓WV_alen, ↓WV_copy, ↓WV_min, ↓WV_max, WC_region, WC_cond', WO_cons, WO_guard', WO_nil, WG_tt, WG_tf, WG_ft, WG_ff, WB_t, WB_f, WB_b, WG_tup, WI_true, WI_false, WV_some, WV_ite, rd_t, rd_l, rd_c, wr_t, wr_l, wr_no, thenQ_nrm, thenQ_ex, thenQ_ret, blockQ_nrm, blockQ_ex, blockQ_ret, Env.get_put, Env.get_leaf, Nat.reduceAdd, Nat.reduceMul, Nat.reduceLT, Nat.reduceEqDiff, reduceIte, List.length_cons, List.length_nil, Nat.add_assoc, binP, ne_eq, not_true_eq_false, map_some, decide_eq_true_eq, decide_true, decide_false, WV_get, ofCells, Bool.false_eq_true, Int.toNat_natCast, and_true, true_and, Bool.not_true, Bool.not_false, Option.map_none, List.map_cons, List.map_nil, bound_none, eq_self_iff_true, Bool.true_eq_false, h1, h2, h3, ez', ef]
  refine finish ?_ ?_ (w := zW) (w0 := zW) (f := [.i .i64 (.ofNat 2), .i .i64 (.ofNat 0)]) (f0 := [.i .i64 (.ofNat 0), .i .i64 (.ofNat 0)]) ?_ ?_ rfl rfl rfl rfl rfl rfl rfl
  · simp [Env.get_put]
  · simp [Env.get_put]
  · rw [St.get_cnt, St.get_put_ne (by decide), St.get_putk]; rfl
  · rw [St.get_cnt, St.get_putk]
/-- the token at a place, at any arguments -/
def gNext : List PV → Option PV
  | [.s text, .i .i64 at0] => some (if 16384 < text.length then faultR 3 0 else if at0 < 0 ∨ (text.length : Int) < at0 then faultR 2 0 else nextR text at0.toNat)
  | _ => none
theorem next_any {args : List PV} {r : PV} (h : gNext args = some r) : ∃ fuel, evP cfgW fuel 7 args = some r := by
  have hx : cfgW.ext 7 = none := by kernel_rfl
  unfold gNext at h
  split at h
  · rename_i text at0
    simp only [Option.some.injEq] at h
    have fin : ∀ (fuel : Nat) (e l : Int), (∃ r st', evFn cfgW (fuel + 1) 7 [.s text, .i .i64 at0] { sto := .leaf, cnt := 1 } = some (r, st') ∧ r = faultR e l) → evP cfgW (fuel + 1) 7 [.s text, .i .i64 at0] = some (faultR e l) := by
      rintro fuel e l ⟨r, st', h1, h2⟩
      unfold evP runPure
      simp only [hx]
      unfold callP
      have h1' : evFn cfgW (fuel + 1) 7 (openArgs [.s text, .i .i64 at0]).1 (openArgs [.s text, .i .i64 at0]).2 = some (r, st') := h1
      rw [h1', h2]
      exact closeRes_fault st' e l
    split at h
    · rename_i hl
      rw [← h]
      exact ⟨0 + 1, fin 0 3 0 (next_long hl)⟩
    · rename_i hl
      split at h
      · rename_i ha
        rw [← h]
        rcases ha with ha | ha
        · exact ⟨0 + 1, fin 0 2 0 (next_below (by omega) ha)⟩
        · exact ⟨0 + 1, fin 0 2 0 (next_above (by omega) ha)⟩
      · rename_i ha
        rw [← h]
        refine ⟨text.length + 1 + 60 + 1, ?_⟩
        have := next_P (M := text.length + 1) (text := text) (at0 := at0.toNat) (by omega) (by omega) (by omega)
        rwa [show ((at0.toNat : Nat) : Int) = at0 by omega] at this
  · simp at h
theorem next_pure {P : Program} {Gl : Gmap} (hc : CfgOK P Gl cfgW) : PureOK P Gl 7 gNext := by
  intro args r h
  obtain ⟨fuel, hf⟩ := next_any h
  exact evP_ok hc fuel _ args r hf
end Go.Pe
