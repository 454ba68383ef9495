/-
  SegmentBack, by the interpreter of plain data. No condition.
-/
import Derived.Test.YtogdkhejfkbnmaaSegS
import Derived.Test.YtogdkhejfkbnmaaPeL9
import Derived.Test.YtogdkhejfkbnmaaEvtAr
set_option linter.unusedVariables false
set_option linter.unusedSimpArgs false
namespace Go.Pe
open Go Go.Am Go.RowKit

noncomputable def cfgL9 : Cfg := { fn := fun f => lookT f tblX9, ext := extS4 }
theorem cfgL9_ok {Gl : Gmap} : CfgOK Go.Proofs.Try.prog Gl cfgL9 := cfg_okt tbl_all9 extS4_ok
theorem s_pick9 {callE : CallE} {x n : Int} (hx : in64 x) (hn : 0 ≤ n ∧ n ≤ 4611686018427387904) : runPure cfgL9 callE 30 [.i .i64 x, .i .i64 n] = some (.i .i64 (pickI x n)) := by
  have h : cfgL9.ext 30 = some gPick := hxS4_gPick
  rw [runPure_ext h]
  unfold in64 at hx
  unfold gPick
  simp only []
  rw [if_pos ⟨hx.1, by omega, hn.1, hn.2⟩]
theorem unpackR_err {b : List UInt8} {e : Int} (h : unpackR b = .inr e) : ¬ e = 0 := by
  unfold unpackR at h
  repeat' split at h
  all_goals first | (injection h with h; omega) | (injection h)
theorem slice_ev0 {l : List Ev} {m : Nat} (h2 : m ≤ l.length) : sliceP 5 none (some (.i .i64 (m : Int))) (.fsl l.length (evsC l)) = some (.fsl (l.take m).length (evsC (l.take m))) := by
  have hb1 : bound (some (.i .i64 (m : Int))) l.length l.length = some m := by
    show (if _ then _ else _) = _
    rw [if_pos (by omega)]; rfl
  unfold sliceP
  simp only [hb1, Z0B_]
  rw [if_pos (evsC_len l), Nat.zero_mul, List.drop_zero, Nat.sub_zero, evsC_take, List.length_take, Nat.min_eq_left h2]
theorem slice_by0 {q N m : Nat} (h2 : m ≤ N) : sliceP 1 none (some (.i .i64 (m : Int))) (.rsl q 1 0 N) = some (.rsl q 1 0 m) := by
  have hb1 : bound (some (.i .i64 (m : Int))) N N = some m := by
    show (if _ then _ else _) = _
    rw [if_pos (by omega)]; rfl
  unfold sliceP
  simp only [hb1, Z0B_]
  rw [if_pos ⟨trivial, Or.inr trivial⟩]
  simp
set_option maxHeartbeats 8000000 in
set_option maxRecDepth 100000 in
theorem back_ev {l : List Ev} {bs : List UInt8} {first each cut : Int} (hf : in64 first) (he : in64 each) (hc : in64 cut) (hE : ∀ e ∈ l, EvIn e) : ∃ fuel, evP cfgL9 fuel 9 [.i .i64 first, .fsl l.length (evsC l), .i .i64 each, .i .i64 cut, .fsl bs.length (ofBytes bs)] = some (.b true) := by
  refine ⟨401 + 1, ev_flat rfl rfl (fun _ => rfl) (evFn_W (by kernel_rfl : cfgL9.fn 9 = some m9) ?_)⟩
  unfold m9
  have aw := fun st key => s_awake (callE := evFn cfgL9 401) (cfg := cfgL9) rfl st key
  by_cases z0 : 300 < l.length
  · simp (disch := first | omega | rfl | assumption) only [putArgs, ↓Z0, ↓Xp, ↓Xt, Xq, Xc, binP, ofCells, Nat.reduceAdd, Nat.reduceMul, Nat.reduceLT, Nat.reduceEqDiff, reduceIte, Xm, Nat.reduceLeDiff, Xa, Xn, unP, len_f, len_n, len_r, aw]
    refine ⟨nofun, _, rfl, ?_⟩
    simp only [tupV, ↓Z0, ↓Xp, ↓Xt, Xq, Xc, binP, ofCells, Nat.reduceAdd, Nat.reduceMul, Nat.reduceLT, Nat.reduceEqDiff, reduceIte]
  by_cases z1 : 2000 < bs.length
  · simp (disch := first | omega | rfl | assumption) only [putArgs, ↓Z0, ↓Xp, ↓Xt, Xq, Xc, binP, ofCells, Nat.reduceAdd, Nat.reduceMul, Nat.reduceLT, Nat.reduceEqDiff, reduceIte, Xm, Nat.reduceLeDiff, Xa, Xn, unP, len_f, len_n, len_r, aw]
    refine ⟨nofun, _, rfl, ?_⟩
    simp only [tupV, ↓Z0, ↓Xp, ↓Xt, Xq, Xc, binP, ofCells, Nat.reduceAdd, Nat.reduceMul, Nat.reduceLT, Nat.reduceEqDiff, reduceIte]
  have hd2 : ∀ (st : St) (a : Int), deepL st [.i .i64 a, .fsl l.length (evsC l)] = some [.i .i64 a, .fsl l.length (evsC l)] := fun st a => deepL_flat rfl
  refine Za (fun x => x.env.get 0 = .i .i64 first ∧ x.env.get 1 = .fsl l.length (evsC l) ∧ x.env.get 2 = .i .i64 each ∧ x.env.get 3 = .i .i64 cut ∧ x.env.get 4 = .fsl bs.length (ofBytes bs)) ?_ ?_
  · simp (disch := first | omega | rfl | assumption) only [↓Z0, ↓Xp, ↓Xt, Xq, Xc, binP, ofCells, Nat.reduceAdd, Nat.reduceMul, Nat.reduceLT, Nat.reduceEqDiff, reduceIte, Xm, Nat.reduceLeDiff, Xa, Xn, putArgs]
    (repeat' (first | exact True.intro | rfl | assumption | omega | apply And.intro | exact St.get_putk _ _ _ | refine ⟨_, rfl, ?_⟩))
  rintro ⟨env, ⟨sto, c⟩⟩ ⟨g0, g1, g2, g3, g4⟩
  simp only at g0 g1 g2 g3 g4
  refine Za (fun x => x.env.get 0 = .i .i64 first ∧ x.env.get 1 = .fsl l.length (evsC l) ∧ x.env.get 2 = .i .i64 each ∧ x.env.get 3 = .i .i64 cut ∧ x.env.get 4 = .fsl bs.length (ofBytes bs)) ?_ ?_
  · simp (disch := first | omega | rfl | assumption) only [↓Z0, ↓Xp, ↓Xt, Xq, Xc, binP, ofCells, Nat.reduceAdd, Nat.reduceMul, Nat.reduceLT, Nat.reduceEqDiff, reduceIte, Xm, Nat.reduceLeDiff, Xa, Xn, g0, g1, g2, g3, g4, len_f]
    (repeat' (first | exact True.intro | rfl | assumption | omega | apply And.intro | exact St.get_putk _ _ _ | refine ⟨_, rfl, ?_⟩))
  clear g0 g1 g2 g3 g4
  rintro ⟨env, ⟨sto, c⟩⟩ ⟨g0, g1, g2, g3, g4⟩
  simp only at g0 g1 g2 g3 g4
  have hsl : (sealB bs).length = bs.length + 4 := sealB_len _
  refine Za (fun x => x.env.get 0 = .i .i64 first ∧ x.env.get 1 = .fsl l.length (evsC l) ∧ x.env.get 2 = .i .i64 each ∧ x.env.get 3 = .i .i64 cut) ?_ ?_
  · skip
    rw [Z0]
    simp (disch := first | omega | rfl | assumption) only [↓Xp, ↓Xt, Xq, Xc, binP, ofCells, Nat.reduceAdd, Nat.reduceMul, Nat.reduceLT, Nat.reduceEqDiff, reduceIte, Xa, Xn, unP, len_f, len_n, len_r, Xm, Nat.reduceLeDiff, g0, g1, g2, g3, g4]
    refine WV_callB (deepL_flat rfl) (s_seal rfl (in_fsl bs) (by omega)) (by first | omega | (simp only [Z0L_, Z0M_, Nat.add_assoc, Nat.reduceAdd]; omega) | (simp only; omega)) ?_
    intro st1 o1 _ c1 f1
    simp only at c1
    cases hu : unpackR (sealB bs) with
    | inr e =>
      have he0 := unpackR_err hu
      have hcl := fun M (hM : st1.cnt ≤ M) key => s_unpack_no (callE := evFn cfgL9 401) (cfg := cfgL9) (st := ⟨st1.sto, M⟩) rfl key (deepL_one (o1.cnt hM).deepV) o1.inV (by omega) hu
      simp (disch := first | omega | rfl | assumption) only [↓Z0, ↓Xp, ↓Xt, Xq, Xc, binP, ofCells, Nat.reduceAdd, Nat.reduceMul, Nat.reduceLT, Nat.reduceEqDiff, reduceIte, Xm, Nat.reduceLeDiff, Xa, Xn, unP, len_f, len_n, len_r, g0, g1, g2, g3, g4, hcl]
    | inl r =>
      obtain ⟨n, L⟩ := r
      obtain ⟨hb1, hb2, hb3, hb4, hb5⟩ := unpackR_inv hu
      refine WV_callT (deepL_one (o1.cnt (by omega)).deepV) (s_unpack_ok rfl o1.inV (by omega) hu) (OutV.osl _ _ _) rfl rfl (clO_evs _) (evsC_len _) (by first | omega | (simp only [Z0L_, Z0M_, Nat.add_assoc, Nat.reduceAdd]; omega) | (simp only; omega)) ?_
      intro x1 st2 o2 _ c2 f2
      (try simp only at c2)
      (repeat (first | rw [Z0] | simp (maxSteps := 2000000) (disch := first | omega | rfl | assumption) only [↓Xp, ↓Xt, Xq, Xc, binP, ofCells, Nat.reduceAdd, Nat.reduceMul, Nat.reduceLT, Nat.reduceEqDiff, reduceIte, Xa, Xn, unP, len_f, len_n, len_r, Xm, Nat.reduceLeDiff, List.nil_append, List.cons_append, g0, g1, g2, g3, g4]))
      have hL0 : L ≠ [] := fun h => by rw [h] at hb3; simp at hb3
      refine WV_callT (deepL_two rfl ((o2.cnt (by omega)).deepE rfl).1) (s_pack rfl (n := n) ((o2.deepE rfl).2) hL0 (by omega) (by omega)) (OutV.osl _ _ _) rfl rfl (clO_bytes _) (by rw [len_ofBytes, Nat.mul_one]) (by first | omega | (simp only [Z0L_, Z0M_, Nat.add_assoc, Nat.reduceAdd]; omega) | (simp only; omega)) ?_
      intro p1 st3 o3 _ c3 f3
      (try simp only at c3)
      (repeat (first | rw [Z0] | simp (maxSteps := 2000000) (disch := first | omega | rfl | assumption) only [↓Xp, ↓Xt, Xq, Xc, binP, ofCells, Nat.reduceAdd, Nat.reduceMul, Nat.reduceLT, Nat.reduceEqDiff, reduceIte, Xa, Xn, unP, len_f, len_n, len_r, Xm, Nat.reduceLeDiff, List.nil_append, List.cons_append, g0, g1, g2, g3, g4]))
      refine WV_callB (deepL_flat rfl) (s_seal rfl (in_fsl bs) (by omega)) (by first | omega | (simp only [Z0L_, Z0M_, Nat.add_assoc, Nat.reduceAdd]; omega) | (simp only; omega)) ?_
      intro st4 o4 _ c4 f4
      (try simp only at c4)
      replace o3 := o3.over f4 rfl (by omega) (by omega)
      have e1 := fun M (hM : st4.cnt ≤ M) key => k4_sameb (callE := evFn cfgL9 401) (cfg := cfgL9) rfl (st := ⟨st4.sto, M⟩) (key := key) (deepL_two (o3.cnt hM).deepV (o4.cnt hM).deepV) o3.inV o4.inV
      have hbe : (packB n L == sealB bs) = true := by rw [hb1]; exact beq_self_eq_true _
      (repeat (first | rw [Z0] | simp (maxSteps := 2000000) (disch := first | omega | rfl | assumption) only [↓Xp, ↓Xt, Xq, Xc, binP, ofCells, Nat.reduceAdd, Nat.reduceMul, Nat.reduceLT, Nat.reduceEqDiff, reduceIte, Xa, Xn, unP, len_f, len_n, len_r, Xm, Nat.reduceLeDiff, List.nil_append, List.cons_append, g0, g1, g2, g3, g4, e1, hbe]))
  clear g0 g1 g2 g3
  rintro ⟨env, ⟨sto, c⟩⟩ ⟨g0, g1, g2, g3⟩
  simp only at g0 g1 g2 g3
  obtain ⟨n0, hn1, hn2⟩ : ∃ n0 : Nat, (first < 0 → n0 = 0) ∧ (¬ first < 0 → first = (n0 : Int)) := ⟨first.toNat, by omega, by omega⟩
  have hn3 : n0 ≤ 9223372036854775807 := by unfold in64 at hf; omega
  refine Za (fun x => x.env.get 0 = .i .i64 (n0 : Int) ∧ x.env.get 1 = .fsl l.length (evsC l) ∧ x.env.get 2 = .i .i64 each ∧ x.env.get 3 = .i .i64 cut) ?_ ?_
  · skip
    by_cases hneg : first < 0
    · rw [hn1 hneg]
      simp (disch := first | omega | rfl | assumption) only [↓Z0, ↓Xp, ↓Xt, Xq, Xc, binP, ofCells, Nat.reduceAdd, Nat.reduceMul, Nat.reduceLT, Nat.reduceEqDiff, reduceIte, Xm, Nat.reduceLeDiff, Xa, Xn, unP, len_f, len_n, len_r, g0, g1, g2, g3]
    · have hfe := hn2 hneg
      simp (disch := first | omega | rfl | assumption) only [↓Z0, ↓Xp, ↓Xt, Xq, Xc, binP, ofCells, Nat.reduceAdd, Nat.reduceMul, Nat.reduceLT, Nat.reduceEqDiff, reduceIte, Xm, Nat.reduceLeDiff, Xa, Xn, unP, len_f, len_n, len_r, g0, g1, g2, g3]
      rw [hfe]
  clear g0 g1 g2 g3
  rintro ⟨env, ⟨sto, c⟩⟩ ⟨g0, g1, g2, g3⟩
  simp only at g0 g1 g2 g3
  obtain ⟨n, hn⟩ : ∃ n, n0 % 4611686018427387904 = n := ⟨_, rfl⟩
  have hnl : n ≤ 4611686018427387904 := by omega
  have h62 : ((((4611686018427387904 : Nat) : Int)) = 0) = False := by simp
  refine Za (fun x => x.env.get 0 = .i .i64 (n : Int) ∧ x.env.get 1 = .fsl l.length (evsC l) ∧ x.env.get 2 = .i .i64 each ∧ x.env.get 3 = .i .i64 cut) ?_ ?_
  · simp (disch := first | omega | rfl | assumption) only [↓Z0, ↓Xp, ↓Xt, Xq, Xc, binP, ofCells, Nat.reduceAdd, Nat.reduceMul, Nat.reduceLT, Nat.reduceEqDiff, reduceIte, Xm, Nat.reduceLeDiff, Xa, Xn, g0, g1, g2, g3, hn, h62]
    (repeat' (first | exact True.intro | rfl | assumption | omega | apply And.intro | exact St.get_putk _ _ _ | refine ⟨_, rfl, ?_⟩))
  clear g0 g1 g2 g3
  rintro ⟨env, ⟨sto, c⟩⟩ ⟨g0, g1, g2, g3⟩
  simp only at g0 g1 g2 g3
  refine Za (fun x => x.env.get 0 = .i .i64 (n : Int) ∧ x.env.get 1 = .fsl l.length (evsC l) ∧ x.env.get 2 = .i .i64 each ∧ x.env.get 3 = .i .i64 cut) ?_ ?_
  · by_cases hl0 : l = []
    · have hlen : l.length = 0 := by rw [hl0]; rfl
      have hcl := fun st key => s_pack_no (callE := evFn cfgL9 401) (cfg := cfgL9) rfl (n := (n : Int)) (l := l) ⟨by omega, by omega⟩ key (hd2 st _) (inEl_fsl l) (by omega) (.inr (.inr hl0))
      simp (disch := first | omega | rfl | assumption) only [↓Z0, ↓Xp, ↓Xt, Xq, Xc, binP, ofCells, Nat.reduceAdd, Nat.reduceMul, Nat.reduceLT, Nat.reduceEqDiff, reduceIte, Xm, Nat.reduceLeDiff, Xa, Xn, unP, len_f, len_n, len_r, g0, g1, g2, g3, hcl]
      (repeat' (first | exact True.intro | rfl | assumption | omega | apply And.intro | exact St.get_putk _ _ _ | refine ⟨_, rfl, ?_⟩))
    · have hp := List.length_pos_iff.mpr hl0
      (repeat (first | rw [Z0] | simp (maxSteps := 2000000) (disch := first | omega | rfl | assumption) only [↓Xp, ↓Xt, Xq, Xc, binP, ofCells, Nat.reduceAdd, Nat.reduceMul, Nat.reduceLT, Nat.reduceEqDiff, reduceIte, Xa, Xn, unP, len_f, len_n, len_r, Xm, Nat.reduceLeDiff, List.nil_append, List.cons_append, g0, g1, g2, g3]))
      refine WV_callT (hd2 _ _) (s_pack rfl (n := n) (inEl_fsl l) hl0 (by omega) (by omega)) (OutV.osl _ _ _) rfl rfl (clO_bytes _) (by rw [len_ofBytes, Nat.mul_one]) (by first | omega | (simp only [Z0L_, Z0M_, Nat.add_assoc, Nat.reduceAdd]; omega) | (simp only; omega)) ?_
      intro p1 st1 o1 _ c1 f1
      (try simp only at c1)
      have hpl := @packB_len n l
      (repeat (first | rw [Z0] | simp (maxSteps := 2000000) (disch := first | omega | rfl | assumption) only [↓Xp, ↓Xt, Xq, Xc, binP, ofCells, Nat.reduceAdd, Nat.reduceMul, Nat.reduceLT, Nat.reduceEqDiff, reduceIte, Xa, Xn, unP, len_f, len_n, len_r, Xm, Nat.reduceLeDiff, List.nil_append, List.cons_append, g0, g1, g2, g3]))
      refine WV_callT (deepL_one (o1.cnt (by omega)).deepV) (s_unpack_ok rfl o1.inV (by omega) (unpackR_B (n := n) (by omega) (by omega) (by omega) hE)) (OutV.osl _ _ _) rfl rfl (clO_evs _) (evsC_len _) (by first | omega | (simp only [Z0L_, Z0M_, Nat.add_assoc, Nat.reduceAdd]; omega) | (simp only; omega)) ?_
      intro x1 st2 o2 _ c2 f2
      (try simp only at c2)
      have e1 := fun M (hM : st2.cnt ≤ M) key => k4_samee (callE := evFn cfgL9 401) (cfg := cfgL9) rfl (st := ⟨st2.sto, M⟩) (key := key) (deepL_two ((o2.cnt hM).deepE rfl).1 (deep_ev0 (inEl_fsl l))) ((o2.deepE rfl).2) (inEl_fsl l) (by omega)
      (repeat (first | rw [Z0] | simp (maxSteps := 2000000) (disch := first | omega | rfl | assumption) only [↓Xp, ↓Xt, Xq, Xc, binP, ofCells, Nat.reduceAdd, Nat.reduceMul, Nat.reduceLT, Nat.reduceEqDiff, reduceIte, Xa, Xn, unP, len_f, len_n, len_r, Xm, Nat.reduceLeDiff, List.nil_append, List.cons_append, g0, g1, g2, g3, e1, decide_true]))
  clear g0 g1 g2 g3
  rintro ⟨env, ⟨sto, c⟩⟩ ⟨g0, g1, g2, g3⟩
  simp only at g0 g1 g2 g3
  obtain ⟨p5, hp5⟩ : ∃ p : Nat, pickI each ((5 : Nat) : Int) = (p : Int) := ⟨(pickI each ((5 : Nat) : Int)).toNat, by have := pick_nonneg (x := each) (n := ((5 : Nat) : Int)) (by omega); omega⟩
  have hp5l : p5 < 5 := by have := pick_nonneg (x := each) (n := ((5 : Nat) : Int)) (by omega); omega
  have hpi := fun st key => k4_pick (callE := evFn cfgL9 401) (cfg := cfgL9) rfl (st := st) (key := key) he (n := ((5 : Nat) : Int)) ⟨by omega, by omega⟩
  rw [hp5] at hpi
  (repeat (first | rw [Z0] | simp (maxSteps := 2000000) (disch := first | omega | rfl | assumption) only [↓Xp, ↓Xt, Xq, Xc, binP, ofCells, Nat.reduceAdd, Nat.reduceMul, Nat.reduceLT, Nat.reduceEqDiff, reduceIte, Xa, Xn, unP, len_f, len_n, len_r, Xm, Nat.reduceLeDiff, List.nil_append, List.cons_append, g0, g1, g2, g3]))
  refine WV_callT (deepL_flat rfl) (s_head rfl hnl) (OutV.osl _ _ _) rfl rfl (clO_bytes _) (by rw [len_ofBytes, Nat.mul_one]) (by first | omega | (simp only [Z0L_, Z0M_, Nat.add_assoc, Nat.reduceAdd]; omega) | (simp only; omega)) ?_
  intro h st1 o1 q1 c1 f1
  (try simp only at c1)
  have h5 : Int.ofNat 5 = ((5 : Nat) : Int) := rfl
  have n1 := o1.len
  obtain ⟨E, hE1⟩ : ∃ E, 1 + p5 = E := ⟨_, rfl⟩
  (try rw [Z0])
  (try simp (maxSteps := 2000000) (disch := first | omega | rfl | assumption) only [↓Xp, ↓Xt, Xq, Xc, binP, ofCells, Nat.reduceAdd, Nat.reduceMul, Nat.reduceLT, Nat.reduceEqDiff, reduceIte, Xa, Xn, unP, len_f, len_n, len_r, Xm, Nat.reduceLeDiff, List.nil_append, List.cons_append, g0, g1, g2, g3, h5, hpi, n1, hE1])
  (try rw [Z0])
  (try simp (maxSteps := 2000000) (disch := first | omega | rfl | assumption) only [↓Xp, ↓Xt, Xq, Xc, binP, ofCells, Nat.reduceAdd, Nat.reduceMul, Nat.reduceLT, Nat.reduceEqDiff, reduceIte, Xa, Xn, unP, len_f, len_n, len_r, Xm, Nat.reduceLeDiff, List.nil_append, List.cons_append, g0, g1, g2, g3, h5, hpi, n1, hE1])
  (try rw [Z0])
  (try simp (maxSteps := 2000000) (disch := first | omega | rfl | assumption) only [↓Xp, ↓Xt, Xq, Xc, binP, ofCells, Nat.reduceAdd, Nat.reduceMul, Nat.reduceLT, Nat.reduceEqDiff, reduceIte, Xa, Xn, unP, len_f, len_n, len_r, Xm, Nat.reduceLeDiff, List.nil_append, List.cons_append, g0, g1, g2, g3, h5, hpi, n1, hE1])
  (try rw [Z0])
  (try simp (maxSteps := 2000000) (disch := first | omega | rfl | assumption) only [↓Xp, ↓Xt, Xq, Xc, binP, ofCells, Nat.reduceAdd, Nat.reduceMul, Nat.reduceLT, Nat.reduceEqDiff, reduceIte, Xa, Xn, unP, len_f, len_n, len_r, Xm, Nat.reduceLeDiff, List.nil_append, List.cons_append, g0, g1, g2, g3, h5, hpi, n1, hE1])
  (try rw [Z0])
  (try simp (maxSteps := 2000000) (disch := first | omega | rfl | assumption) only [↓Xp, ↓Xt, Xq, Xc, binP, ofCells, Nat.reduceAdd, Nat.reduceMul, Nat.reduceLT, Nat.reduceEqDiff, reduceIte, Xa, Xn, unP, len_f, len_n, len_r, Xm, Nat.reduceLeDiff, List.nil_append, List.cons_append, g0, g1, g2, g3, h5, hpi, n1, hE1])
  obtain ⟨cs, hcs⟩ : ∃ cs, chunks E l.length l = cs := ⟨_, rfl⟩
  obtain ⟨B, hB⟩ : ∃ B, segB n cs = B := ⟨_, rfl⟩
  have hgd : ∀ c ∈ cs, goodF c := by rw [← hcs]; exact chunks_good (by omega) (by omega) l.length hE
  have hcl : cs.length ≤ 300 := by rw [← hcs]; have := @chunks_len E l.length l; omega
  have hPl := fun j => endP_le (n := n) hgd hcl j
  refine Za (fun x => ∃ w w2, x.env.get 0 = .i .i64 (n : Int) ∧ x.env.get 1 = .fsl l.length (evsC l) ∧ x.env.get 2 = .i .i64 (E : Int) ∧ x.env.get 3 = .i .i64 cut ∧ x.env.get 21 = w ∧ x.env.get 23 = w2 ∧ Own x.st 1 w B.length (ofBytes B) ∧ Own x.st 1 w2 (cs.length + 1) (endsC n cs cs.length)) ?_ ?_
  · rw [Z0]
    simp (disch := first | omega | rfl | assumption) only [↓Xp, ↓Xt, Xq, Xc, binP, ofCells, Nat.reduceAdd, Nat.reduceMul, Nat.reduceLT, Nat.reduceEqDiff, reduceIte, Xa, Xn, unP, len_f, len_n, len_r, Xm, Nat.reduceLeDiff, g0, g1, g2, g3]
    refine Z9 (k := l.length - 0) (fun q x => ∃ (i d f : Nat) (w w2 : PV), q = l.length - i ∧ i = d * E ∧ i ≤ l.length + 9 ∧ l.length - i ≤ f ∧ d ≤ cs.length ∧ cs.drop d = chunks E f (l.drop i) ∧ x.env.get 0 = .i .i64 (n : Int) ∧ x.env.get 1 = .fsl l.length (evsC l) ∧ x.env.get 2 = .i .i64 (E : Int) ∧ x.env.get 3 = .i .i64 cut ∧ x.env.get 21 = w ∧ x.env.get 23 = w2 ∧ x.env.get 24 = .i .i64 (i : Int) ∧ Own x.st 1 w (segB n (cs.take d)).length (ofBytes (segB n (cs.take d))) ∧ Own x.st 1 w2 (d + 1) (endsC n cs d) ∧ ∀ j, j ∈ keyOf w → j ∉ keyOf w2) ?_ ?_ (by omega)
    · skip
      clear g0 g1 g2 g3
      rintro q ⟨env, ⟨sto, c⟩⟩ ⟨i, d, f, w, w2, rfl, hi, hi9, hf2, hd, hdr, g0, g1, g2, g3, g21, g23, g24, o1, o2, hdj⟩
      simp only at g0 g1 g2 g3 g21 g23 g24
      by_cases hlt : i < l.length
      · obtain ⟨f, rfl⟩ : ∃ g, f = g + 1 := ⟨f - 1, by omega⟩
        have hne : l.drop i ≠ [] := fun e => by
          have := congrArg List.length e
          rw [List.length_drop, List.length_nil] at this
          omega
        unfold chunks at hdr
        rw [if_neg hne, List.drop_drop] at hdr
        obtain ⟨C, hC⟩ : ∃ C, (l.drop i).take E = C := ⟨_, rfl⟩
        have hCl : C.length = min E (l.length - i) := by rw [← hC, List.length_take, List.length_drop]
        rw [hC] at hdr
        have hdl : d < cs.length := by
          have := congrArg List.length hdr
          rw [List.length_drop, List.length_cons] at this
          omega
        have hcd : cs[d]? = some C := by rw [← List.head?_drop, hdr]; rfl
        have hdr2 : cs.drop (d + 1) = chunks E f (l.drop (i + E)) := by
          rw [← List.drop_drop, hdr]; rfl
        have hsl := slice_evs (l := l) (i := i) (m := min (i + E) l.length) (by omega) (by omega)
        have hce : ((evsC l).drop (i * 5)).take ((min (i + E) l.length - i) * 5) = evsC C := by
          rw [evsC_drop5, evsC_take, ← hC]
          congr 1
          by_cases h : i + E ≤ l.length
          · rw [show min (i + E) l.length - i = E by omega]
          · rw [show min (i + E) l.length - i = l.length - i by omega, List.take_of_length_le (by rw [List.length_drop]; omega), List.take_of_length_le (by rw [List.length_drop]; omega)]
        rw [hce, show min (i + E) l.length - i = C.length by omega] at hsl
        have hC0 : C ≠ [] := fun e => by rw [e] at hCl; simp at hCl; omega
        have hmin : minP (.i .i64 ((i + E : Nat) : Int)) [.i .i64 (l.length : Int)] = some (.i .i64 ((min (i + E) l.length : Nat) : Int)) := by
          unfold minP
          rw [if_pos rfl]
          unfold minP
          congr 2
          split <;> omega
        have hnx := segB_next (n := n) hcd
        have hP1 := hPl (d + 1)
        have hP0 := hPl d
        unfold endP at hP1 hP0
        rw [hnx, List.length_append] at hP1
        (repeat (first | rw [Z0] | simp (maxSteps := 2000000) (disch := first | omega | rfl | assumption) only [↓Xp, ↓Xt, Xq, Xc, binP, ofCells, Nat.reduceAdd, Nat.reduceMul, Nat.reduceLT, Nat.reduceEqDiff, reduceIte, Xa, Xn, unP, len_f, len_n, len_r, Xm, Nat.reduceLeDiff, List.nil_append, List.cons_append, g0, g1, g2, g3, g0, g1, g2, g3, g21, g23, g24, hmin, hsl]))
        refine WV_callT (deepL_flat rfl) (s_frame rfl hC0 (by omega)) (OutV.osl _ _ _) rfl rfl (clO_bytes _) (by rw [len_ofBytes, Nat.mul_one]) (by first | omega | (simp only [Z0L_, Z0M_, Nat.add_assoc, Nat.reduceAdd]; omega) | (simp only; omega)) ?_
        intro v st2 o3 q3 c2 f2
        (try simp only at c2)
        replace o1 := o1.over f2 rfl (by simp only; omega) (by simp only; omega)
        replace o2 := o2.over f2 rfl (by simp only; omega) (by simp only; omega)
        have hco := fun N (hN : st2.cnt ≤ N) => (o3.cnt (c' := N) hN).cells
        have hone := one_ofBytes (frameL C)
        (repeat (first | rw [Z0] | simp (maxSteps := 2000000) (disch := first | omega | rfl | assumption) only [↓Xp, ↓Xt, Xq, Xc, binP, ofCells, Nat.reduceAdd, Nat.reduceMul, Nat.reduceLT, Nat.reduceEqDiff, reduceIte, Xa, Xn, unP, len_f, len_n, len_r, Xm, Nat.reduceLeDiff, List.nil_append, List.cons_append, g0, g1, g2, g3, g0, g1, g2, g3, g21, g23, g24, hco, hone]))
        refine WV_appO (o1.cnt (by omega)) (by first | omega | (simp only [Z0L_, Z0M_, Nat.add_assoc, Nat.reduceAdd]; omega) | (simp only; omega)) (fun h => by have := o1.lt _ h; omega) (by rw [len_ofBytes, Nat.mul_one]) (by decide) (by unfold maxBytes; omega) ?_
        intro v2 st3 o4 c3 q4 f3
        (try simp only at c3)
        have hap : ofBytes (segB n (cs.take (d + 1))) = ofBytes (segB n (cs.take d)) ++ ofBytes (frameL C) := by rw [hnx]; unfold ofBytes; rw [List.map_append]
        have hal : (segB n (cs.take (d + 1))).length = (segB n (cs.take d)).length + (frameL C).length := by rw [hnx, List.length_append]
        rw [← hap, ← hal] at o4
        have n4 := o4.len
        have o2k := o2.lt
        replace o2 : Own st3 1 w2 (d + 1) (endsC n cs d) := o2.move (by rw [c3]; omega) (fun j hj hlt => by rw [f3 j (by omega) (fun h => hdj j h hj)]; rfl)
        have hco2 : ∀ (S : St) (k : Nat) (x : PV), cellsOf (S.put k (some (.cells [x] false))) 1 (.rsl k 1 0 1) = some (1, [x]) := fun S k x => by
          rw [cells_putL]; rfl
        (repeat (first | rw [Z0] | simp (maxSteps := 2000000) (disch := first | omega | rfl | assumption) only [↓Xp, ↓Xt, Xq, Xc, binP, ofCells, Nat.reduceAdd, Nat.reduceMul, Nat.reduceLT, Nat.reduceEqDiff, reduceIte, Xa, Xn, unP, len_f, len_n, len_r, Xm, Nat.reduceLeDiff, List.nil_append, List.cons_append, g0, g1, g2, g3, n4, hco2]))
        refine WV_appO ((o2.cnt (by omega)).put (fun h => by have := o2.lt _ h; omega)) (by first | omega | (simp only [Z0L_, Z0M_, Nat.add_assoc, Nat.reduceAdd]; omega) | (simp only; omega)) (fun h => by have := o2.lt _ h; omega) (m := 1) rfl (by decide) (by unfold maxBytes; omega) ?_
        intro v5 st4 o5 c4 q5 f4
        (try simp only [Z0L_] at c4)
        have hpn : (((segB n (cs.take (d + 1))).length : Nat) : Int) = ((endP n cs (d + 1) : Nat) : Int) := rfl
        rw [hpn, ← endsC_next] at o5
        replace o4 : Own st4 1 v2 (segB n (cs.take (d + 1))).length (ofBytes (segB n (cs.take (d + 1)))) := o4.move (by rw [c4]; omega) (fun j hj hlt => by
          have h1 := q4 j hj
          rw [f4 j (by omega) (fun h => by have := o2k _ h; omega), St.get_put_ne (by omega)]; rfl)
        refine ⟨l.length - (i + E), by omega, i + E, d + 1, f, v2, v5, rfl, by rw [hi, Nat.succ_mul], by omega, by omega, by omega, hdr2, rfl, rfl, rfl, o4.cnt (by omega), o5.cnt (by omega), fun j h1 h2 => ?_⟩
        have h3 := q4 j h1
        have h4 := q5 j h2
        omega
      · have hdn : cs.drop d = [] := by
          rw [hdr, List.drop_eq_nil_of_le (by omega)]
          cases f <;> simp [chunks]
        have hdl : d = cs.length := by
          have := congrArg List.length hdn
          rw [List.length_drop, List.length_nil] at this
          omega
        subst hdl
        rw [List.take_length, hB] at o1
        simp (disch := first | omega | rfl | assumption) only [↓Z0, ↓Xp, ↓Xt, Xq, Xc, binP, ofCells, Nat.reduceAdd, Nat.reduceMul, Nat.reduceLT, Nat.reduceEqDiff, reduceIte, Xm, Nat.reduceLeDiff, Xa, Xn, unP, len_f, len_n, len_r, g0, g1, g2, g3, g21, g23, g24]
        exact ⟨w, w2, rfl, rfl, o1.cnt (by omega), o2.cnt (by omega)⟩
    · refine ⟨0, 0, l.length, h, .rsl (st1.cnt + 64) 1 0 1, by omega, by omega, by omega, by omega, by omega, by rw [List.drop_zero, List.drop_zero]; exact hcs.symm, ?_⟩
      have ho := o1.put (k := st1.cnt + 64) (o := some (.cells [PV.i .i64 ((headB n).length : Int)] false)) (fun h => by have := o1.lt _ h; omega)
      simp only [Env.get_put, Nat.reduceEqDiff, if_false, if_true, g0, g1, g2, g3]
      refine ⟨trivial, trivial, trivial, trivial, trivial, trivial, trivial, ?_, ?_, ?_⟩
      · have e0 : segB n (cs.take 0) = headB n := by simp [segB]
        rw [e0]; exact ho.cnt (by omega)
      · refine .inr ⟨_, rfl, ?_, rfl, by simp only; omega⟩
        have e0 : endsC n cs 0 = [.i .i64 ((headB n).length : Int)] := by
          show [PV.i .i64 (endP n cs 0 : Int)] = _
          rw [endP_0]
        rw [e0]
        exact St.get_putk _ _ _
      · intro j h1 h2
        have h3 := o1.lt _ h1
        simp only [keyOf_rsl, List.mem_singleton] at h2
        omega
  clear g0 g1 g2 g3
  clear o1 q1 f1 n1 hpi
  rintro ⟨env, ⟨sto, c⟩⟩ ⟨w, w2, g0, g1, g2, g3, g21, g23, o1, o2⟩
  simp only at g0 g1 g2 g3 g21 g23
  have hBe : B.length = endP n cs cs.length := by rw [endP_all (Nat.le_refl _), hB]
  have hP0 := hPl 0
  have hPc := hPl cs.length
  have hm0 := endP_mono n cs (Nat.zero_le cs.length)
  have hpos : 0 < endP n cs 0 := by rw [endP_0]; unfold headB; rw [sealB_len]; omega
  obtain ⟨q1, rfl, hq1⟩ : ∃ k, w = .rsl k 1 0 B.length ∧ (⟨sto, c⟩ : St).get k = some (.cells (ofBytes B) false) := by
    rcases o1 with ⟨_, h0, _⟩ | ⟨k, h1, h2, _⟩
    · omega
    · exact ⟨k, h1, h2⟩
  obtain ⟨q2, rfl, hq2, hq3⟩ : ∃ k, w2 = .rsl k 1 0 (cs.length + 1) ∧ (⟨sto, c⟩ : St).get k = some (.cells (endsC n cs cs.length) false) ∧ k < c := by
    rcases o2 with ⟨_, h0, _⟩ | ⟨k, h1, h2, _, h3⟩
    · omega
    · exact ⟨k, h1, h2, h3⟩
  have hld : ∀ N j, j ≤ cs.length → loadP ⟨sto, N⟩ 1 (.ptr q2 j) = some [.i .i64 (endP n cs j : Int)] := fun N j hj => endsC_load hq2 hj
  have hM : B.length - endP n cs 0 + 1 ≤ 4611686018427387904 := by omega
  obtain ⟨M, hMe⟩ : ∃ M, B.length - endP n cs 0 + 1 = M := ⟨_, rfl⟩
  obtain ⟨p, hp⟩ : ∃ p : Nat, pickI cut (M : Int) = (p : Int) := ⟨(pickI cut (M : Int)).toNat, by have := pick_nonneg (x := cut) (n := (M : Int)) (by omega); omega⟩
  have hpM : p < M := by have := pick_nonneg (x := cut) (n := (M : Int)) (by omega); omega
  have hld0 := fun N => hld N 0 (Nat.zero_le _)
  rw [Z0]
  simp (disch := first | omega | rfl | assumption) only [↓Xp, ↓Xt, Xq, Xc, binP, ofCells, Nat.reduceAdd, Nat.reduceMul, Nat.reduceLT, Nat.reduceEqDiff, reduceIte, Xa, Xn, unP, len_f, len_n, len_r, Xl, Nat.reduceLeDiff, g0, g1, g2, g3, g21, g23, hld0]
  have hMi : ((B.length : Int) - (endP n cs 0 : Int) + ((1 : Nat) : Int)) = (M : Int) := by omega
  rw [hMi]
  have hdp : ∀ (st : St) (a b : Int), deepL st [.i .i64 a, .i .i64 b] = some [.i .i64 a, .i .i64 b] := fun _ _ _ => rfl
  have hrn : runPure cfgL9 (evFn cfgL9 401) 30 [.i .i64 cut, .i .i64 (M : Int)] = some (.i .i64 (p : Int)) := by rw [s_pick9 hc ⟨by omega, by omega⟩, hp]
  have hcp : (PV.i .i64 (p : Int)).closedB = true := rfl
  have hrr : ∀ (st : St) (key : Nat), recvRes st key (.i .i64 (p : Int)) = some (.i .i64 (p : Int), st) := fun _ _ => rfl
  obtain ⟨K, hK⟩ : ∃ K, endP n cs 0 + p = K := ⟨_, rfl⟩
  simp (disch := first | omega | rfl | assumption) only [↓Xp, ↓Xt, Xq, Xc, binP, ofCells, Nat.reduceAdd, Nat.reduceMul, Nat.reduceLT, Nat.reduceEqDiff, reduceIte, Xa, Xn, unP, len_f, len_n, len_r, Xl, Nat.reduceLeDiff, g0, g1, g2, g3, g21, g23, hdp, hrn, hcp, hrr, hK]
  rw [Z0]
  simp (disch := first | omega | rfl | assumption) only [↓Xp, ↓Xt, Xq, Xc, binP, ofCells, Nat.reduceAdd, Nat.reduceMul, Nat.reduceLT, Nat.reduceEqDiff, reduceIte, Xa, Xn, unP, len_f, len_n, len_r, Xl, Nat.reduceLeDiff, g0, g1, g2, g3, g21, g23]
  refine Za (fun x => ∃ wh : Nat, x.env.get 0 = .i .i64 (n : Int) ∧ x.env.get 1 = .fsl l.length (evsC l) ∧ x.env.get 2 = .i .i64 (E : Int) ∧ x.env.get 21 = .rsl q1 1 0 B.length ∧ x.env.get 23 = .rsl q2 1 0 (cs.length + 1) ∧ x.env.get 27 = .i .i64 (K : Int) ∧ x.env.get 28 = .i .i64 (wh : Int) ∧ x.st.sto = sto ∧ c ≤ x.st.cnt ∧ wh ≤ cs.length ∧ endP n cs wh ≤ K ∧ (wh < cs.length → K < endP n cs (wh + 1))) ?_ ?_
  · rw [Z0]
    simp (disch := first | omega | rfl | assumption) only [↓Xp, ↓Xt, Xq, Xc, binP, ofCells, Nat.reduceAdd, Nat.reduceMul, Nat.reduceLT, Nat.reduceEqDiff, reduceIte, Xa, Xn, unP, len_f, len_n, len_r, Xl, Nat.reduceLeDiff]
    refine Z9 (k := cs.length + 1 - 0) (fun q x => ∃ (i wh : Nat), q = cs.length + 1 - i ∧ i ≤ cs.length + 1 ∧ x.env.get 0 = .i .i64 (n : Int) ∧ x.env.get 1 = .fsl l.length (evsC l) ∧ x.env.get 2 = .i .i64 (E : Int) ∧ x.env.get 21 = .rsl q1 1 0 B.length ∧ x.env.get 23 = .rsl q2 1 0 (cs.length + 1) ∧ x.env.get 27 = .i .i64 (K : Int) ∧ x.env.get 28 = .i .i64 (wh : Int) ∧ x.env.get 29 = .i .i64 (i : Int) ∧ x.st.sto = sto ∧ c ≤ x.st.cnt ∧ wh ≤ cs.length ∧ endP n cs wh ≤ K ∧ (∀ j, j < i → j ≤ wh ∨ K < endP n cs j)) ?_ ?_ (by omega)
    · clear g0 g1 g2 g3 g21 g23
      rintro q ⟨env, ⟨sto', c'⟩⟩ ⟨i, wh, rfl, hi, g0, g1, g2, g21, g23, g27, g28, g29, hso, hcc, hw1, hw2, hw3⟩
      simp only at g0 g1 g2 g21 g23 g27 g28 g29 hso hcc
      subst hso
      by_cases hlt : i < cs.length + 1
      · have hldi := fun N => hld N i (by omega)
        by_cases hle : endP n cs i ≤ K
        · simp (disch := first | omega | rfl | assumption) only [↓Z0, ↓Xp, ↓Xt, Xq, Xc, binP, ofCells, Nat.reduceAdd, Nat.reduceMul, Nat.reduceLT, Nat.reduceEqDiff, reduceIte, Xa, Xn, unP, len_f, len_n, len_r, Xl, Nat.reduceLeDiff, g0, g1, g2, g21, g23, g27, g28, g29, hldi]
          refine ⟨cs.length + 1 - (i + 1), by omega, i + 1, i, rfl, by omega, rfl, rfl, by omega, hle, fun j hj => .inl (by omega)⟩
        · simp (disch := first | omega | rfl | assumption) only [↓Z0, ↓Xp, ↓Xt, Xq, Xc, binP, ofCells, Nat.reduceAdd, Nat.reduceMul, Nat.reduceLT, Nat.reduceEqDiff, reduceIte, Xa, Xn, unP, len_f, len_n, len_r, Xl, Nat.reduceLeDiff, g0, g1, g2, g21, g23, g27, g28, g29, hldi]
          refine ⟨cs.length + 1 - (i + 1), by omega, i + 1, wh, rfl, by omega, rfl, rfl, by omega, hw2, fun j hj => ?_⟩
          by_cases hji : j < i
          · exact hw3 j hji
          · have : j = i := by omega
            subst this
            exact .inr (by omega)
      · simp (disch := first | omega | rfl | assumption) only [↓Z0, ↓Xp, ↓Xt, Xq, Xc, binP, ofCells, Nat.reduceAdd, Nat.reduceMul, Nat.reduceLT, Nat.reduceEqDiff, reduceIte, Xa, Xn, unP, len_f, len_n, len_r, Xl, Nat.reduceLeDiff, g0, g1, g2, g21, g23, g27, g28, g29]
        refine ⟨wh, rfl, hw1, hw2, fun h => ?_⟩
        rcases hw3 (wh + 1) (by omega) with h1 | h1
        · omega
        · exact h1
    · refine ⟨0, 0, rfl, by omega, ?_⟩
      simp only [Env.get_put, Nat.reduceEqDiff, if_false, if_true, g0, g1, g2, g3, g21, g23]
      exact ⟨trivial, trivial, trivial, trivial, trivial, trivial, trivial, trivial, trivial, by omega, by omega, by omega, fun j hj => by omega⟩
  clear g0 g1 g2 g3 g21 g23
  rintro ⟨env, ⟨sto', c'⟩⟩ ⟨wh, g0, g1, g2, g21, g23, g27, g28, hso, hcc, hw1, hw2, hw3⟩
  simp only at g0 g1 g2 g21 g23 g27 g28 hso hcc
  subst hso
  have hKB : K ≤ B.length := by omega
  have hsc := scan_cut hnl hgd (k := K) (w := wh) hw2 hw3
  rw [hB, ← hcs, chunks_take (by omega) l.length l wh (Nat.le_refl _), hcs] at hsc
  have hsl1 := slice_by0 (q := q1) hKB
  rw [Z0]
  simp (disch := first | omega | rfl | assumption) only [↓Xp, ↓Xt, Xq, Xc, binP, ofCells, Nat.reduceAdd, Nat.reduceMul, Nat.reduceLT, Nat.reduceEqDiff, reduceIte, Xa, Xn, unP, len_f, len_n, len_r, Xm, Nat.reduceLeDiff, g0, g1, g2, g21, g23, g27, g28, hsl1]
  refine WV_callT (deepL_one (deep_pre (show St.get ⟨sto', _⟩ q1 = _ from hq1) hKB)) (s_scan_ok rfl (in_fsl _) (by rw [List.length_take]; omega) hsc) (OutV.evsO _) rfl rfl (clO_evs _) (evsC_len _) (by first | omega | (simp only [Z0L_, Z0M_, Nat.add_assoc, Nat.reduceAdd]; omega) | (simp only; omega)) ?_
  intro x1 st5 o5 _ c5 f5
  (try simp only at c5)
  have hq4 : st5.get q2 = some (.cells (endsC n cs cs.length) false) := by
    rw [f5 q2 (by omega)]; exact hq2
  have hldw := fun N => endsC_load (show St.get ⟨st5.sto, N⟩ q2 = _ from hq4) hw1
  obtain ⟨W, hW⟩ : ∃ W, wh * E = W := ⟨_, rfl⟩
  have hWl : W ≤ 300 * 5 := by rw [← hW]; exact Nat.mul_le_mul (by omega) (by omega)
  have hmul : IntKind.i64.wrap ((wh : Int) * (E : Int)) = ((W : Nat) : Int) := by
    rw [← hW, show ((wh : Int) * (E : Int)) = ((wh * E : Nat) : Int) by simp, hW]
    exact wr_i64 _ ⟨by omega, by omega⟩
  have hmin : minP (.i .i64 (W : Int)) [.i .i64 (l.length : Int)] = some (.i .i64 ((min W l.length : Nat) : Int)) := by
    unfold minP
    rw [if_pos rfl]
    unfold minP
    congr 2
    split <;> omega
  have hsl2 := slice_ev0 (l := l) (m := min W l.length) (by omega)
  have htk : l.take (min W l.length) = l.take W := by
    by_cases h : W ≤ l.length
    · rw [Nat.min_eq_left h]
    · rw [Nat.min_eq_right (by omega), List.take_length, List.take_of_length_le (by omega)]
  rw [htk] at hsl2
  rw [hW] at o5
  have e1 := fun M (hM : st5.cnt ≤ M) key => k4_samee (callE := evFn cfgL9 401) (cfg := cfgL9) rfl (st := ⟨st5.sto, M⟩) (key := key) (deepL_two ((o5.cnt hM).deepE rfl).1 (deep_ev0 (inEl_fsl (l.take W)))) ((o5.deepE rfl).2) (inEl_fsl (l.take W)) (by rw [List.length_take]; omega)
  have hee : ((((segB n (cs.take wh)).length : Nat) : Int) == ((endP n cs wh : Nat) : Int)) = true := beq_self_eq_true _
  simp (disch := first | omega | rfl | assumption) only [↓Xp, ↓Xt, Xq, Xc, binP, ofCells, Nat.reduceAdd, Nat.reduceMul, Nat.reduceLT, Nat.reduceEqDiff, reduceIte, Xa, Xn, unP, len_f, len_n, len_r, Xl, Nat.reduceLeDiff, g0, g1, g2, g21, g23, g27, g28, List.nil_append, List.cons_append]
  rw [Z0]
  simp (maxSteps := 2000000) (disch := first | omega | rfl | assumption) only [↓Xp, ↓Xt, Xq, Xc, binP, ofCells, Nat.reduceAdd, Nat.reduceMul, Nat.reduceLT, Nat.reduceEqDiff, reduceIte, Xa, Xn, unP, len_f, len_n, len_r, Xl, Nat.reduceLeDiff, g0, g1, g2, g21, g23, g27, g28, hldw, hmul, hmin, hsl2, e1, hee, aw, decide_true]
  refine ⟨nofun, _, rfl, ?_⟩
  simp only [tupV, ↓Z0, ↓Xp, ↓Xt, Xq, Xc, binP, ofCells, Nat.reduceAdd, Nat.reduceMul, Nat.reduceLT, Nat.reduceEqDiff, reduceIte]
theorem sback_law (first : Int) (h1 : (Lit.int .i64 first).wf = true) (n : Nat) (ps : List PV) (hl : ps.length = n * evSh.width) (hn : n ≤ reachBytes) (h : ∀ j, j < n → evSh.Is ((ps.drop (j * evSh.width)).take evSh.width)) (each : Int) (h2 : (Lit.int .i64 each).wf = true) (cut : Int) (h3 : (Lit.int .i64 cut).wf = true) (n2 : Nat) (ps2 : List PV) (hl2 : ps2.length = n2 * (Sh.i .u8).width) (hn2 : n2 ≤ reachBytes) (hh : ∀ j, j < n2 → (Sh.i .u8).Is ((ps2.drop (j * (Sh.i .u8).width)).take (Sh.i .u8).width)) : ∃ fuel, evP cfgL9 fuel 9 [.i .i64 first, .fsl n ps, .i .i64 each, .i .i64 cut, .fsl n2 ps2] = some (.b true) := by
  obtain ⟨l, rfl, rfl, hE⟩ := is_evs hl h
  obtain ⟨b, rfl, rfl⟩ := is_bytes hl2 hh
  exact back_ev (i64_wf h1) (i64_wf h2) (i64_wf h3) hE
end Go.Pe
