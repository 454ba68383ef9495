/-
  SegmentFirsts, by the interpreter of plain data. No condition.
-/
import Derived.Test.YtogdkhejfkbnmaaSegJ
import Derived.Test.YtogdkhejfkbnmaaPeL6
import Derived.Test.YtogdkhejfkbnmaaEvtAr
set_option linter.unusedVariables false
set_option linter.unusedSimpArgs false
namespace Go.Pe
open Go Go.Am Go.RowKit

noncomputable def cfgL6 : Cfg := { fn := fun f => lookT f tblX6, ext := extS4 }
theorem cfgL6_ok {Gl : Gmap} : CfgOK Go.Proofs.Try.prog Gl cfgL6 := cfg_okt tbl_all6 extS4_ok

theorem Own.over {s0 st st' : St} {key sz n : Nat} {v : PV} {cs : List PV} (h : Own s0 sz v n cs) (f : ∀ j, j ≠ key → st'.get j = st.get j) (hs : st.sto = s0.sto) (hk : s0.cnt ≤ key) (hc : s0.cnt ≤ st'.cnt) : Own st' sz v n cs :=
  h.move hc fun j hj hj2 => by
    rw [f j (by omega)]
    unfold St.get
    rw [hs]
set_option maxHeartbeats 8000000 in
set_option maxRecDepth 100000 in
theorem firsts_ev {l : List Ev} {a b : Nat} (ha : a < 4294967296) (hb : b < 4294967296) (hE : ∀ e ∈ l, EvIn e) : ∃ fuel, evP cfgL6 fuel 6 [.i .u32 (a : Int), .i .u32 (b : Int), .fsl l.length (evsC l)] = some (.b true) := by
  refine ⟨310 + 1, ev_flat rfl rfl (fun _ => rfl) (evFn_W (by kernel_rfl : cfgL6.fn 6 = some m6) ?_)⟩
  unfold m6
  have aw := fun st key => s_awake (callE := evFn cfgL6 310) (cfg := cfgL6) rfl st key
  by_cases z0 : l.length = 0
  · simp (disch := first | omega | rfl | assumption) only [putArgs, ↓Z0, ↓Xp, ↓Xt, Xq, Xc, binP, ofCells, Nat.reduceAdd, Nat.reduceMul, Nat.reduceLT, Nat.reduceEqDiff, reduceIte, Xm, Nat.reduceLeDiff, Xa, Xn, unP, len_f, len_n, len_r, aw]
    refine ⟨nofun, _, rfl, ?_⟩
    simp only [tupV, ↓Z0, ↓Xp, ↓Xt, Xq, Xc, binP, ofCells, Nat.reduceAdd, Nat.reduceMul, Nat.reduceLT, Nat.reduceEqDiff, reduceIte]
  by_cases z1 : 100 < l.length
  · simp (disch := first | omega | rfl | assumption) only [putArgs, ↓Z0, ↓Xp, ↓Xt, Xq, Xc, binP, ofCells, Nat.reduceAdd, Nat.reduceMul, Nat.reduceLT, Nat.reduceEqDiff, reduceIte, Xm, Nat.reduceLeDiff, Xa, Xn, unP, len_f, len_n, len_r, aw]
    refine ⟨nofun, _, rfl, ?_⟩
    simp only [tupV, ↓Z0, ↓Xp, ↓Xt, Xq, Xc, binP, ofCells, Nat.reduceAdd, Nat.reduceMul, Nat.reduceLT, Nat.reduceEqDiff, reduceIte]
  have hl0 : l ≠ [] := fun e => z0 (by rw [e]; rfl)
  have hd2 : ∀ (st : St) (a : Int), deepL st [.i .i64 a, .fsl l.length (evsC l)] = some [.i .i64 a, .fsl l.length (evsC l)] := fun st a => deepL_flat rfl
  refine Za (fun x => x.env.get 0 = .i .u32 (a : Int) ∧ x.env.get 1 = .i .u32 (b : Int) ∧ x.env.get 2 = .fsl l.length (evsC l)) ?_ ?_
  · simp (disch := first | omega | rfl | assumption) only [↓Z0, ↓Xp, ↓Xt, Xq, Xc, binP, ofCells, Nat.reduceAdd, Nat.reduceMul, Nat.reduceLT, Nat.reduceEqDiff, reduceIte, Xm, Nat.reduceLeDiff, Xa, Xn, putArgs]
    (repeat' (first | exact True.intro | rfl | assumption | omega | apply And.intro | exact St.get_putk _ _ _ | refine ⟨_, rfl, ?_⟩))
  rintro ⟨env, ⟨sto, c⟩⟩ ⟨g0, g1, g2⟩
  simp only at g0 g1 g2
  refine Za (fun x => x.env.get 0 = .i .u32 (a : Int) ∧ x.env.get 1 = .i .u32 (b : Int) ∧ x.env.get 2 = .fsl l.length (evsC l)) ?_ ?_
  · simp (disch := first | omega | rfl | assumption) only [↓Z0, ↓Xp, ↓Xt, Xq, Xc, binP, ofCells, Nat.reduceAdd, Nat.reduceMul, Nat.reduceLT, Nat.reduceEqDiff, reduceIte, Xm, Nat.reduceLeDiff, Xa, Xn, g0, g1, g2, len_f]
    (repeat' (first | exact True.intro | rfl | assumption | omega | apply And.intro | exact St.get_putk _ _ _ | refine ⟨_, rfl, ?_⟩))
  clear g0 g1 g2
  rintro ⟨env, ⟨sto, c⟩⟩ ⟨g0, g1, g2⟩
  simp only at g0 g1 g2
  have hab := @packB_len a l
  have hbb := @packB_len b l
  have hah := @headB_len a
  rw [Z0]
  simp (disch := first | omega | rfl | assumption) only [↓Xp, ↓Xt, Xq, Xc, binP, ofCells, Nat.reduceAdd, Nat.reduceMul, Nat.reduceLT, Nat.reduceEqDiff, reduceIte, Xa, Xn, unP, len_f, len_n, len_r, Xm, Nat.reduceLeDiff, g0, g1, g2]
  refine WV_callT (deepL_flat rfl) (s_head rfl (n := a) (by omega)) (OutV.osl _ _ _) rfl rfl (clO_bytes _) (by rw [len_ofBytes, Nat.mul_one]) (by first | omega | (simp only [Z0L_, Z0M_, Nat.add_assoc, Nat.reduceAdd]; omega) | (simp only; omega)) ?_
  intro h1 st1 o1 _ c1 f1
  simp only at c1
  simp (disch := first | omega | rfl | assumption) only [↓Xp, ↓Xt, Xq, Xc, binP, ofCells, Nat.reduceAdd, Nat.reduceMul, Nat.reduceLT, Nat.reduceEqDiff, reduceIte, Xa, Xn, unP, len_f, len_n, len_r, Xm, Nat.reduceLeDiff, g0, g1, g2, List.nil_append]
  rw [Z0]
  simp (disch := first | omega | rfl | assumption) only [↓Xp, ↓Xt, Xq, Xc, binP, ofCells, Nat.reduceAdd, Nat.reduceMul, Nat.reduceLT, Nat.reduceEqDiff, reduceIte, Xa, Xn, unP, len_f, len_n, len_r, Xm, Nat.reduceLeDiff, g0, g1, g2, List.nil_append]
  refine WV_callT (deepL_flat rfl) (s_head rfl (n := b) (by omega)) (OutV.osl _ _ _) rfl rfl (clO_bytes _) (by rw [len_ofBytes, Nat.mul_one]) (by first | omega | (simp only [Z0L_, Z0M_, Nat.add_assoc, Nat.reduceAdd]; omega) | (simp only; omega)) ?_
  intro h2 st2 o2 _ c2 f2
  simp only at c2
  replace o1 := o1.over f2 rfl (by omega) (by omega)
  simp (disch := first | omega | rfl | assumption) only [↓Xp, ↓Xt, Xq, Xc, binP, ofCells, Nat.reduceAdd, Nat.reduceMul, Nat.reduceLT, Nat.reduceEqDiff, reduceIte, Xa, Xn, unP, len_f, len_n, len_r, Xm, Nat.reduceLeDiff, g0, g1, g2, List.nil_append]
  rw [Z0]
  simp (disch := first | omega | rfl | assumption) only [↓Xp, ↓Xt, Xq, Xc, binP, ofCells, Nat.reduceAdd, Nat.reduceMul, Nat.reduceLT, Nat.reduceEqDiff, reduceIte, Xa, Xn, unP, len_f, len_n, len_r, Xm, Nat.reduceLeDiff, g0, g1, g2, List.nil_append]
  refine WV_callT (hd2 _ _) (s_pack rfl (n := a) (inEl_fsl l) hl0 (by omega) (by omega)) (OutV.osl _ _ _) rfl rfl (clO_bytes _) (by rw [len_ofBytes, Nat.mul_one]) (by first | omega | (simp only [Z0L_, Z0M_, Nat.add_assoc, Nat.reduceAdd]; omega) | (simp only; omega)) ?_
  intro p1 st3 o3 _ c3 f3
  simp only at c3
  replace o1 := o1.over f3 rfl (by omega) (by omega)
  replace o2 := o2.over f3 rfl (by omega) (by omega)
  simp (disch := first | omega | rfl | assumption) only [↓Xp, ↓Xt, Xq, Xc, binP, ofCells, Nat.reduceAdd, Nat.reduceMul, Nat.reduceLT, Nat.reduceEqDiff, reduceIte, Xa, Xn, unP, len_f, len_n, len_r, Xm, Nat.reduceLeDiff, g0, g1, g2, List.nil_append]
  rw [Z0]
  simp (disch := first | omega | rfl | assumption) only [↓Xp, ↓Xt, Xq, Xc, binP, ofCells, Nat.reduceAdd, Nat.reduceMul, Nat.reduceLT, Nat.reduceEqDiff, reduceIte, Xa, Xn, unP, len_f, len_n, len_r, Xm, Nat.reduceLeDiff, g0, g1, g2, List.nil_append]
  refine WV_callT (hd2 _ _) (s_pack rfl (n := b) (inEl_fsl l) hl0 (by omega) (by omega)) (OutV.osl _ _ _) rfl rfl (clO_bytes _) (by rw [len_ofBytes, Nat.mul_one]) (by first | omega | (simp only [Z0L_, Z0M_, Nat.add_assoc, Nat.reduceAdd]; omega) | (simp only; omega)) ?_
  intro p2 st4 o4 _ c4 f4
  simp only at c4
  replace o1 := o1.over f4 rfl (by omega) (by omega)
  replace o2 := o2.over f4 rfl (by omega) (by omega)
  replace o3 := o3.over f4 rfl (by omega) (by omega)
  simp (disch := first | omega | rfl | assumption) only [↓Xp, ↓Xt, Xq, Xc, binP, ofCells, Nat.reduceAdd, Nat.reduceMul, Nat.reduceLT, Nat.reduceEqDiff, reduceIte, Xa, Xn, unP, len_f, len_n, len_r, Xm, Nat.reduceLeDiff, g0, g1, g2, List.nil_append]
  rw [Z0]
  simp (disch := first | omega | rfl | assumption) only [↓Xp, ↓Xt, Xq, Xc, binP, ofCells, Nat.reduceAdd, Nat.reduceMul, Nat.reduceLT, Nat.reduceEqDiff, reduceIte, Xa, Xn, unP, len_f, len_n, len_r, Xm, Nat.reduceLeDiff, g0, g1, g2, List.nil_append]
  refine WV_callT (deepL_one (o3.cnt (by omega)).deepV) (s_unpack_ok rfl o3.inV (by omega) (unpackR_B (n := a) (by omega) (by omega) (by omega) hE)) (OutV.osl _ _ _) rfl rfl (clO_evs _) (evsC_len _) (by first | omega | (simp only [Z0L_, Z0M_, Nat.add_assoc, Nat.reduceAdd]; omega) | (simp only; omega)) ?_
  intro x1 st5 o5 _ c5 f5
  simp only at c5
  replace o1 := o1.over f5 rfl (by omega) (by omega)
  replace o2 := o2.over f5 rfl (by omega) (by omega)
  replace o3 := o3.over f5 rfl (by omega) (by omega)
  replace o4 := o4.over f5 rfl (by omega) (by omega)
  simp (disch := first | omega | rfl | assumption) only [↓Xp, ↓Xt, Xq, Xc, binP, ofCells, Nat.reduceAdd, Nat.reduceMul, Nat.reduceLT, Nat.reduceEqDiff, reduceIte, Xa, Xn, unP, len_f, len_n, len_r, Xm, Nat.reduceLeDiff, g0, g1, g2, List.cons_append, List.nil_append]
  rw [Z0]
  simp (disch := first | omega | rfl | assumption) only [↓Xp, ↓Xt, Xq, Xc, binP, ofCells, Nat.reduceAdd, Nat.reduceMul, Nat.reduceLT, Nat.reduceEqDiff, reduceIte, Xa, Xn, unP, len_f, len_n, len_r, Xm, Nat.reduceLeDiff, g0, g1, g2, List.nil_append]
  refine WV_callT (deepL_one (o4.cnt (by omega)).deepV) (s_unpack_ok rfl o4.inV (by omega) (unpackR_B (n := b) (by omega) (by omega) (by omega) hE)) (OutV.osl _ _ _) rfl rfl (clO_evs _) (evsC_len _) (by first | omega | (simp only [Z0L_, Z0M_, Nat.add_assoc, Nat.reduceAdd]; omega) | (simp only; omega)) ?_
  intro x2 st6 o6 _ c6 f6
  simp only at c6
  replace o1 := o1.over f6 rfl (by omega) (by omega)
  replace o2 := o2.over f6 rfl (by omega) (by omega)
  replace o3 := o3.over f6 rfl (by omega) (by omega)
  replace o4 := o4.over f6 rfl (by omega) (by omega)
  replace o5 := o5.over f6 rfl (by omega) (by omega)
  have sx := fun N (hN : st6.cnt ≤ N) key => k4_samee (callE := evFn cfgL6 310) (cfg := cfgL6) rfl (st := ⟨st6.sto, N⟩) (key := key) (deepL_two ((o5.cnt hN).deepE rfl).1 (deep_ev0 (inEl_fsl l))) ((o5.deepE rfl).2) (inEl_fsl l) (by omega)
  have sy := fun N (hN : st6.cnt ≤ N) key => k4_samee (callE := evFn cfgL6 310) (cfg := cfgL6) rfl (st := ⟨st6.sto, N⟩) (key := key) (deepL_two ((o6.cnt hN).deepE rfl).1 (deep_ev0 (inEl_fsl l))) ((o6.deepE rfl).2) (inEl_fsl l) (by omega)
  simp (disch := first | omega | rfl | assumption) only [↓Xp, ↓Xt, Xq, Xc, binP, ofCells, Nat.reduceAdd, Nat.reduceMul, Nat.reduceLT, Nat.reduceEqDiff, reduceIte, Xa, Xn, unP, len_f, len_n, len_r, Xm, Nat.reduceLeDiff, g0, g1, g2, List.cons_append, List.nil_append]
  rw [Z0, Z0]
  simp (disch := first | omega | rfl | assumption) only [↓Xp, ↓Xt, Xq, Xc, binP, ofCells, Nat.reduceAdd, Nat.reduceMul, Nat.reduceLT, Nat.reduceEqDiff, reduceIte, Xa, Xn, unP, len_f, len_n, len_r, Xm, Nat.reduceLeDiff, g0, g1, g2, sx, sy, decide_true]
  rw [Z0]
  simp (disch := first | omega | rfl | assumption) only [↓Xp, ↓Xt, Xq, Xc, binP, ofCells, Nat.reduceAdd, Nat.reduceMul, Nat.reduceLT, Nat.reduceEqDiff, reduceIte, Xa, Xn, unP, len_f, len_n, len_r, Xm, Nat.reduceLeDiff, g0, g1, g2]
  refine WV_callT (deepL_one (o1.cnt (by omega)).deepV) (s_scan_ok rfl o1.inV (by omega) (scan_head (n := a) (by omega))) (OutV.evsO _) rfl rfl (clO_evs _) (evsC_len _) (by first | omega | (simp only [Z0L_, Z0M_, Nat.add_assoc, Nat.reduceAdd]; omega) | (simp only; omega)) ?_
  intro z st7 o7 _ c7 f7
  simp only at c7
  replace o1 := o1.over f7 rfl (by omega) (by omega)
  replace o2 := o2.over f7 rfl (by omega) (by omega)
  replace o3 := o3.over f7 rfl (by omega) (by omega)
  replace o4 := o4.over f7 rfl (by omega) (by omega)
  have n1 := o1.len
  have bh := fun N (hN : st7.cnt ≤ N) key => k4_sameb (callE := evFn cfgL6 310) (cfg := cfgL6) rfl (st := ⟨st7.sto, N⟩) (key := key) (deepL_two (o1.cnt hN).deepV (o2.cnt hN).deepV) o1.inV o2.inV
  have bp := fun N (hN : st7.cnt ≤ N) key => k4_sameb (callE := evFn cfgL6 310) (cfg := cfgL6) rfl (st := ⟨st7.sto, N⟩) (key := key) (deepL_two (o3.cnt hN).deepV (o4.cnt hN).deepV) o3.inV o4.inV
  by_cases hab2 : a = b
  · subst hab2
    simp only [beq_self_eq_true] at bh bp
    simp (disch := first | omega | rfl | assumption) only [↓Xp, ↓Xt, Xq, Xc, binP, ofCells, Nat.reduceAdd, Nat.reduceMul, Nat.reduceLT, Nat.reduceEqDiff, reduceIte, Xa, Xn, unP, len_f, len_n, len_r, Xm, Nat.reduceLeDiff, g0, g1, g2, List.cons_append, List.nil_append]
    rw [Z0]
    simp (disch := first | omega | rfl | assumption) only [↓Xp, ↓Xt, Xq, Xc, binP, ofCells, Nat.reduceAdd, Nat.reduceMul, Nat.reduceLT, Nat.reduceEqDiff, reduceIte, Xa, Xn, unP, len_f, len_n, len_r, Xm, Nat.reduceLeDiff, g0, g1, g2, n1, bh, bp, aw, eqb_same, beq_self_eq_true]
    refine ⟨nofun, _, rfl, ?_⟩
    simp only [tupV, ↓Z0, ↓Xp, ↓Xt, Xq, Xc, binP, ofCells, Nat.reduceAdd, Nat.reduceMul, Nat.reduceLT, Nat.reduceEqDiff, reduceIte]
  · have e1 : (headB a == headB b) = false := by
      simp only [beq_eq_false_iff_ne]
      exact fun e => hab2 (head_inj (by omega) (by omega) e)
    have e2 : (packB a l == packB b l) = false := by
      simp only [beq_eq_false_iff_ne]
      exact fun e => hab2 (pack_inj (by omega) (by omega) e)
    simp only [e1] at bh
    simp only [e2] at bp
    simp (disch := first | omega | rfl | assumption) only [↓Z0, ↓Xp, ↓Xt, Xq, Xc, binP, ofCells, Nat.reduceAdd, Nat.reduceMul, Nat.reduceLT, Nat.reduceEqDiff, reduceIte, Xm, Nat.reduceLeDiff, Xa, Xn, unP, len_f, len_n, len_r, g0, g1, g2, List.cons_append, List.nil_append, n1, bh, bp, aw, eqb_same, beq_self_eq_true]
    refine ⟨nofun, _, rfl, ?_⟩
    simp only [tupV, ↓Z0, ↓Xp, ↓Xt, Xq, Xc, binP, ofCells, Nat.reduceAdd, Nat.reduceMul, Nat.reduceLT, Nat.reduceEqDiff, reduceIte]
theorem firsts_law (a : Int) (ha : (Lit.int .u32 a).wf = true) (b : Int) (hb : (Lit.int .u32 b).wf = true) (n : Nat) (ps : List PV) (hl : ps.length = n * evSh.width) (hn : n ≤ reachBytes) (h : ∀ j, j < n → evSh.Is ((ps.drop (j * evSh.width)).take evSh.width)) : ∃ fuel, evP cfgL6 fuel 6 [.i .u32 a, .i .u32 b, .fsl n ps] = some (.b true) := by
  obtain ⟨l, rfl, rfl, hE⟩ := is_evs hl h
  have h1 := u32_wf ha
  have h2 := u32_wf hb
  obtain ⟨a, rfl⟩ : ∃ k : Nat, a = k := ⟨a.toNat, by omega⟩
  obtain ⟨b, rfl⟩ : ∃ k : Nat, b = k := ⟨b.toNat, by omega⟩
  exact firsts_ev (by omega) (by omega) hE
end Go.Pe
