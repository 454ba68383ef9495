/-
  SegmentBorder, by the interpreter of plain data. No condition.
-/
import Derived.Test.YtogdkhejfkbnmaaSegJ
import Derived.Test.YtogdkhejfkbnmaaPeL8
import Derived.Test.YtogdkhejfkbnmaaEvtAr
set_option linter.unusedVariables false
set_option linter.unusedSimpArgs false
namespace Go.Pe
open Go Go.Am Go.RowKit

noncomputable def cfgL8 : Cfg := { fn := fun f => lookT f tblX8, ext := extS4 }
theorem cfgL8_ok {Gl : Gmap} : CfgOK Go.Proofs.Try.prog Gl cfgL8 := cfg_okt tbl_all8 extS4_ok

set_option maxHeartbeats 8000000 in
set_option maxRecDepth 100000 in
theorem border_ev {l : List Ev} {first : Int} (hf : in64 first) (hE : ∀ e ∈ l, EvIn e) : ∃ fuel, evP cfgL8 fuel 8 [.i .i64 first, .fsl l.length (evsC l)] = some (.b true) := by
  refine ⟨310 + 1, ev_flat rfl rfl (fun _ => rfl) (evFn_W (by kernel_rfl : cfgL8.fn 8 = some m8) ?_)⟩
  unfold m8
  have aw := fun st key => s_awake (callE := evFn cfgL8 310) (cfg := cfgL8) rfl st key
  by_cases z0 : l.length = 0
  · simp (disch := first | omega | rfl | assumption) only [putArgs, ↓Z0, ↓Xp, ↓Xt, Xq, Xc, binP, ofCells, Nat.reduceAdd, Nat.reduceMul, Nat.reduceLT, Nat.reduceEqDiff, reduceIte, Xm, Nat.reduceLeDiff, Xa, Xn, unP, len_f, len_n, len_r, aw]
    refine ⟨nofun, _, rfl, ?_⟩
    simp only [tupV, ↓Z0, ↓Xp, ↓Xt, Xq, Xc, binP, ofCells, Nat.reduceAdd, Nat.reduceMul, Nat.reduceLT, Nat.reduceEqDiff, reduceIte]
  by_cases z1 : 50 < l.length
  · simp (disch := first | omega | rfl | assumption) only [putArgs, ↓Z0, ↓Xp, ↓Xt, Xq, Xc, binP, ofCells, Nat.reduceAdd, Nat.reduceMul, Nat.reduceLT, Nat.reduceEqDiff, reduceIte, Xm, Nat.reduceLeDiff, Xa, Xn, unP, len_f, len_n, len_r, aw]
    refine ⟨nofun, _, rfl, ?_⟩
    simp only [tupV, ↓Z0, ↓Xp, ↓Xt, Xq, Xc, binP, ofCells, Nat.reduceAdd, Nat.reduceMul, Nat.reduceLT, Nat.reduceEqDiff, reduceIte]
  have hl0 : l ≠ [] := fun e => z0 (by rw [e]; rfl)
  have hd2 : ∀ (st : St) (a : Int), deepL st [.i .i64 a, .fsl l.length (evsC l)] = some [.i .i64 a, .fsl l.length (evsC l)] := fun st a => deepL_flat rfl
  refine Za (fun x => x.env.get 0 = .i .i64 first ∧ x.env.get 1 = .fsl l.length (evsC l)) ?_ ?_
  · simp (disch := first | omega | rfl | assumption) only [↓Z0, ↓Xp, ↓Xt, Xq, Xc, binP, ofCells, Nat.reduceAdd, Nat.reduceMul, Nat.reduceLT, Nat.reduceEqDiff, reduceIte, Xm, Nat.reduceLeDiff, Xa, Xn, putArgs]
    (repeat' (first | exact True.intro | rfl | assumption | omega | apply And.intro | exact St.get_putk _ _ _ | refine ⟨_, rfl, ?_⟩))
  rintro ⟨env, ⟨sto, c⟩⟩ ⟨g0, g1⟩
  simp only at g0 g1
  refine Za (fun x => x.env.get 0 = .i .i64 first ∧ x.env.get 1 = .fsl l.length (evsC l)) ?_ ?_
  · simp (disch := first | omega | rfl | assumption) only [↓Z0, ↓Xp, ↓Xt, Xq, Xc, binP, ofCells, Nat.reduceAdd, Nat.reduceMul, Nat.reduceLT, Nat.reduceEqDiff, reduceIte, Xm, Nat.reduceLeDiff, Xa, Xn, g0, g1, len_f]
    (repeat' (first | exact True.intro | rfl | assumption | omega | apply And.intro | exact St.get_putk _ _ _ | refine ⟨_, rfl, ?_⟩))
  clear g0 g1
  rintro ⟨env, ⟨sto, c⟩⟩ ⟨g0, g1⟩
  simp only at g0 g1
  by_cases hm : first < 0 ∨ 4611686018427387904 < first
  · have sh := fun st key => s_head_no (callE := evFn cfgL8 310) (cfg := cfgL8) rfl hm st key
    have sp := fun (st : St) key => s_pack_no (callE := evFn cfgL8 310) (cfg := cfgL8) rfl (st := st) (n := first) hf key (hd2 st first) (inEl_fsl l) (by omega) (by rcases hm with h | h <;> simp [h])
    by_cases h0 : first < 0
    · simp (disch := first | omega | rfl | assumption) only [↓Z0, ↓Xp, ↓Xt, Xq, Xc, binP, ofCells, Nat.reduceAdd, Nat.reduceMul, Nat.reduceLT, Nat.reduceEqDiff, reduceIte, Xm, Nat.reduceLeDiff, Xa, Xn, unP, len_f, len_n, len_r, g0, g1, sh, sp, aw]
      refine ⟨nofun, _, rfl, ?_⟩
      simp only [tupV, ↓Z0, ↓Xp, ↓Xt, Xq, Xc, binP, ofCells, Nat.reduceAdd, Nat.reduceMul, Nat.reduceLT, Nat.reduceEqDiff, reduceIte]
    · have h1 : 4611686018427387904 < first := by omega
      simp (disch := first | omega | rfl | assumption) only [↓Z0, ↓Xp, ↓Xt, Xq, Xc, binP, ofCells, Nat.reduceAdd, Nat.reduceMul, Nat.reduceLT, Nat.reduceEqDiff, reduceIte, Xm, Nat.reduceLeDiff, Xa, Xn, unP, len_f, len_n, len_r, g0, g1, sh, sp, aw]
      refine ⟨nofun, _, rfl, ?_⟩
      simp only [tupV, ↓Z0, ↓Xp, ↓Xt, Xq, Xc, binP, ofCells, Nat.reduceAdd, Nat.reduceMul, Nat.reduceLT, Nat.reduceEqDiff, reduceIte]
  obtain ⟨n, rfl⟩ : ∃ n : Nat, first = n := ⟨first.toNat, by omega⟩
  have hn : n ≤ 4611686018427387904 := by omega
  refine Za (fun x => x.env.get 0 = .i .i64 (n : Int) ∧ x.env.get 1 = .fsl l.length (evsC l) ∧ x.env.get 5 = .b true) ?_ ?_
  · simp (disch := first | omega | rfl | assumption) only [↓Z0, ↓Xp, ↓Xt, Xq, Xc, binP, ofCells, Nat.reduceAdd, Nat.reduceMul, Nat.reduceLT, Nat.reduceEqDiff, reduceIte, Xm, Nat.reduceLeDiff, Xa, Xn, g0, g1]
    (repeat' (first | exact True.intro | rfl | assumption | omega | apply And.intro | exact St.get_putk _ _ _ | refine ⟨_, rfl, ?_⟩))
  clear g0 g1
  rintro ⟨env, ⟨sto, c⟩⟩ ⟨g0, g1, g5⟩
  simp only at g0 g1 g5
  rw [Z0]
  simp (disch := first | omega | rfl | assumption) only [↓Xp, ↓Xt, Xq, Xc, binP, ofCells, Nat.reduceAdd, Nat.reduceMul, Nat.reduceLT, Nat.reduceEqDiff, reduceIte, Xa, Xn, unP, len_f, len_n, len_r, g0, g1, g5]
  refine WV_callT (deepL_flat rfl) (s_head rfl hn) (OutV.osl _ _ _) rfl rfl (clO_bytes _) (by rw [len_ofBytes, Nat.mul_one]) (by first | omega | (simp only [Z0L_, Z0M_, Nat.add_assoc, Nat.reduceAdd]; omega) | (simp only; omega)) ?_
  intro h st1 o1 k1 c1 f1
  simp only at c1
  simp (disch := first | omega | rfl | assumption) only [↓Xp, ↓Xt, Xq, Xc, binP, ofCells, Nat.reduceAdd, Nat.reduceMul, Nat.reduceLT, Nat.reduceEqDiff, reduceIte, Xa, Xn, unP, len_f, len_n, len_r, Xm, Nat.reduceLeDiff, g0, g1, g5, List.nil_append]
  rw [Z0]
  simp (disch := first | omega | rfl | assumption) only [↓Xp, ↓Xt, Xq, Xc, binP, ofCells, Nat.reduceAdd, Nat.reduceMul, Nat.reduceLT, Nat.reduceEqDiff, reduceIte, Xa, Xn, unP, len_f, len_n, len_r, Xm, Nat.reduceLeDiff, g0, g1, g5, List.nil_append]
  refine WV_callT (hd2 _ _) (s_pack rfl (inEl_fsl l) hl0 (by omega) hn) (OutV.osl _ _ _) rfl rfl (clO_bytes _) (by rw [len_ofBytes, Nat.mul_one]) (by first | omega | (simp only [Z0L_, Z0M_, Nat.add_assoc, Nat.reduceAdd]; omega) | (simp only; omega)) ?_
  intro p st2 o2 k2 c2 f2
  simp only at c2
  have o1' := o1.move (st' := st2) (by omega) (fun j hj _ => by have := k1 j hj; rw [f2 j (by omega)]; rfl)
  simp (disch := first | omega | rfl | assumption) only [↓Xp, ↓Xt, Xq, Xc, binP, ofCells, Nat.reduceAdd, Nat.reduceMul, Nat.reduceLT, Nat.reduceEqDiff, reduceIte, Xa, Xn, unP, len_f, len_n, len_r, Xm, Nat.reduceLeDiff, g0, g1, g5, List.nil_append]
  rw [Z0, Z0]
  simp (disch := first | omega | rfl | assumption) only [↓Xp, ↓Xt, Xq, Xc, binP, ofCells, Nat.reduceAdd, Nat.reduceMul, Nat.reduceLT, Nat.reduceEqDiff, reduceIte, Xa, Xn, unP, len_f, len_n, len_r, Xm, Nat.reduceLeDiff, g0, g1, g5]
  rw [Z0]
  simp (disch := first | omega | rfl | assumption) only [↓Xp, ↓Xt, Xq, Xc, binP, ofCells, Nat.reduceAdd, Nat.reduceMul, Nat.reduceLT, Nat.reduceEqDiff, reduceIte, Xa, Xn, unP, len_f, len_n, len_r, Xm, Nat.reduceLeDiff, g0, g1, g5]
  refine WV_callT (deepL_one (o1'.cnt (by omega)).deepV) (s_scan_ok rfl (o1'.inV) (by have := @headB_len n; omega) (scan_head hn)) (OutV.evsO _) rfl rfl (clO_evs _) (evsC_len _) (by first | omega | (simp only [Z0L_, Z0M_, Nat.add_assoc, Nat.reduceAdd]; omega) | (simp only; omega)) ?_
  intro e st3 o3 k3 c3 f3
  simp only at c3
  have o2' := o2.move (st' := st3) (by omega) (fun j hj _ => by have := k2 j hj; rw [f3 j (by omega)]; rfl)
  have o1'' := o1'.move (st' := st3) (by omega) (fun j hj _ => by have := k1 j hj; rw [f3 j (by omega)]; rfl)
  have h3 := o3.len
  have h1 := o1.len
  simp (disch := first | omega | rfl | assumption) only [↓Xp, ↓Xt, Xq, Xc, binP, ofCells, Nat.reduceAdd, Nat.reduceMul, Nat.reduceLT, Nat.reduceEqDiff, reduceIte, Xa, Xn, unP, len_f, len_n, len_r, Xm, Nat.reduceLeDiff, g0, g1, g5, List.cons_append, List.nil_append]
  rw [Z0]
  simp (disch := first | omega | rfl | assumption) only [↓Xp, ↓Xt, Xq, Xc, binP, ofCells, Nat.reduceAdd, Nat.reduceMul, Nat.reduceLT, Nat.reduceEqDiff, reduceIte, Xa, Xn, unP, len_f, len_n, len_r, Xm, Nat.reduceLeDiff, g0, g1, g5]
  refine WV_callT (deepL_one (o2'.cnt (by omega)).deepV) (s_unpack_ok rfl o2'.inV (by have := @packB_len n l; omega) (unpackR_B hn (by omega) (by omega) hE)) (OutV.osl _ _ _) rfl rfl (clO_evs _) (evsC_len _) (by first | omega | (simp only [Z0L_, Z0M_, Nat.add_assoc, Nat.reduceAdd]; omega) | (simp only; omega)) ?_
  intro m st4 o4 k4 c4 f4
  simp only at c4
  have sse := fun N (hN : st4.cnt ≤ N) key => k4_samee (callE := evFn cfgL8 310) (cfg := cfgL8) rfl (st := ⟨st4.sto, N⟩) (key := key) (deepL_two ((show Own ⟨st4.sto, N⟩ 5 m l.length (evsC l) from o4.cnt hN).deepE rfl).1 (deep_ev0 (inEl_fsl l))) ((o4.deepE rfl).2) (inEl_fsl l) (by omega)
  simp (disch := first | omega | rfl | assumption) only [↓Z0, ↓Xp, ↓Xt, Xq, Xc, binP, ofCells, Nat.reduceAdd, Nat.reduceMul, Nat.reduceLT, Nat.reduceEqDiff, reduceIte, Xm, Nat.reduceLeDiff, Xa, Xn, unP, len_f, len_n, len_r, g0, g1, g5, List.cons_append, List.nil_append, h3, h1, sse, aw, decide_true]
  refine ⟨nofun, _, rfl, ?_⟩
  simp only [tupV, ↓Z0, ↓Xp, ↓Xt, Xq, Xc, binP, ofCells, Nat.reduceAdd, Nat.reduceMul, Nat.reduceLT, Nat.reduceEqDiff, reduceIte]
theorem border_law (first : Int) (hf : (Lit.int .i64 first).wf = true) (n : Nat) (ps : List PV) (hl : ps.length = n * evSh.width) (hn : n ≤ reachBytes) (h : ∀ j, j < n → evSh.Is ((ps.drop (j * evSh.width)).take evSh.width)) : ∃ fuel, evP cfgL8 fuel 8 [.i .i64 first, .fsl n ps] = some (.b true) := by
  obtain ⟨l, rfl, rfl, hE⟩ := is_evs hl h
  exact border_ev (i64_wf hf) hE
end Go.Pe
