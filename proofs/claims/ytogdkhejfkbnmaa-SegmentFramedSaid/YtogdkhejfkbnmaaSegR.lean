/-
  SegmentFramed, by the interpreter of plain data. No condition.
-/
import Derived.Test.YtogdkhejfkbnmaaSegQ
import Derived.Test.YtogdkhejfkbnmaaPeL10
import Derived.Test.YtogdkhejfkbnmaaEvtAr
set_option linter.unusedVariables false
set_option linter.unusedSimpArgs false
namespace Go.Pe
open Go Go.Am Go.RowKit

noncomputable def cfgL10 : Cfg := { fn := fun f => lookT f tblX10, ext := extS4 }
theorem cfgL10_ok {Gl : Gmap} : CfgOK Go.Proofs.Try.prog Gl cfgL10 := cfg_okt tbl_all10 extS4_ok
theorem s_segd {l : List Ev} {n each : Nat} (hn : n ≤ 4611686018427387904) (hl : l.length ≤ 300) (hE : ∀ e ∈ l, EvIn e) (he1 : 1 ≤ each) (he2 : each ≤ 9) : runPure cfgL10 (evFn cfgL10 (400 + 1)) 33 [.i .i64 (n : Int), .fsl l.length (evsC l), .i .i64 (each : Int)] = some (.tup ([] ++ PV.osl 1 (segB n (chunks each l.length l)).length (ofBytes (segB n (chunks each l.length l))) :: [.b true])) := by
  obtain ⟨r, st', h1, h2⟩ := segmented_ev (cfg := cfgL10) rfl (by kernel_rfl) hn hl hE he1 he2 (fuel := 400) (Nat.le_refl _)
  have hx : cfgL10.ext 33 = none := by kernel_rfl
  unfold runPure
  rw [hx]
  show callP _ _ _ = _
  unfold callP
  have ho : openArgs [.i .i64 (n : Int), .fsl l.length (evsC l), .i .i64 (each : Int)] = ([.i .i64 (n : Int), .fsl l.length (evsC l), .i .i64 (each : Int)], { sto := .leaf, cnt := 1 }) := rfl
  simp only [ho, h1, h2]
  rfl
set_option maxHeartbeats 8000000 in
set_option maxRecDepth 100000 in
theorem framed_ev {l : List Ev} {bh : List UInt8} {a one two : Nat} (ha : a < 4294967296) (h1 : one < 256) (h2 : two < 256) (hE : ∀ e ∈ l, EvIn e) : ∃ fuel, evP cfgL10 fuel 10 [.i .u32 (a : Int), .fsl l.length (evsC l), .i .u8 (one : Int), .i .u8 (two : Int), .fsl bh.length (ofBytes bh)] = some (.b true) := by
  refine ⟨401 + 1, ev_flat rfl rfl (fun _ => rfl) (evFn_W (by kernel_rfl : cfgL10.fn 10 = some m10) ?_)⟩
  unfold m10
  have aw := fun st key => s_awake (callE := evFn cfgL10 401) (cfg := cfgL10) rfl st key
  by_cases z0 : 100 < l.length
  · simp (disch := first | omega | rfl | assumption) only [putArgs, ↓Z0, ↓Xp, ↓Xt, Xq, Xc, binP, ofCells, Nat.reduceAdd, Nat.reduceMul, Nat.reduceLT, Nat.reduceEqDiff, reduceIte, Xm, Nat.reduceLeDiff, Xa, Xn, unP, len_f, len_n, len_r, aw]
    refine ⟨nofun, _, rfl, ?_⟩
    simp only [tupV, ↓Z0, ↓Xp, ↓Xt, Xq, Xc, binP, ofCells, Nat.reduceAdd, Nat.reduceMul, Nat.reduceLT, Nat.reduceEqDiff, reduceIte]
  by_cases z1 : 100 < bh.length
  · simp (disch := first | omega | rfl | assumption) only [putArgs, ↓Z0, ↓Xp, ↓Xt, Xq, Xc, binP, ofCells, Nat.reduceAdd, Nat.reduceMul, Nat.reduceLT, Nat.reduceEqDiff, reduceIte, Xm, Nat.reduceLeDiff, Xa, Xn, unP, len_f, len_n, len_r, aw]
    refine ⟨nofun, _, rfl, ?_⟩
    simp only [tupV, ↓Z0, ↓Xp, ↓Xt, Xq, Xc, binP, ofCells, Nat.reduceAdd, Nat.reduceMul, Nat.reduceLT, Nat.reduceEqDiff, reduceIte]
  have h9 : ((((9 : Nat) : Int)) = 0) = False := by simp
  have hd3 : ∀ (st : St) (a b : Int), deepL st [.i .i64 a, .fsl l.length (evsC l), .i .i64 b] = some [.i .i64 a, .fsl l.length (evsC l), .i .i64 b] := fun st a b => deepL_flat rfl
  refine Za (fun x => x.env.get 0 = .i .u32 (a : Int) ∧ x.env.get 1 = .fsl l.length (evsC l) ∧ x.env.get 2 = .i .u8 (one : Int) ∧ x.env.get 3 = .i .u8 (two : Int) ∧ x.env.get 4 = .fsl bh.length (ofBytes bh)) ?_ ?_
  · simp (disch := first | omega | rfl | assumption) only [↓Z0, ↓Xp, ↓Xt, Xq, Xc, binP, ofCells, Nat.reduceAdd, Nat.reduceMul, Nat.reduceLT, Nat.reduceEqDiff, reduceIte, Xm, Nat.reduceLeDiff, Xa, Xn, putArgs]
    (repeat' (first | exact True.intro | rfl | assumption | omega | apply And.intro | exact St.get_putk _ _ _ | refine ⟨_, rfl, ?_⟩))
  rintro ⟨env, ⟨sto, c⟩⟩ ⟨g0, g1, g2, g3, g4⟩
  simp only at g0 g1 g2 g3 g4
  refine Za (fun x => x.env.get 0 = .i .u32 (a : Int) ∧ x.env.get 1 = .fsl l.length (evsC l) ∧ x.env.get 2 = .i .u8 (one : Int) ∧ x.env.get 3 = .i .u8 (two : Int) ∧ x.env.get 4 = .fsl bh.length (ofBytes bh)) ?_ ?_
  · simp (disch := first | omega | rfl | assumption) only [↓Z0, ↓Xp, ↓Xt, Xq, Xc, binP, ofCells, Nat.reduceAdd, Nat.reduceMul, Nat.reduceLT, Nat.reduceEqDiff, reduceIte, Xm, Nat.reduceLeDiff, Xa, Xn, g0, g1, g2, g3, g4, len_f]
    (repeat' (first | exact True.intro | rfl | assumption | omega | apply And.intro | exact St.get_putk _ _ _ | refine ⟨_, rfl, ?_⟩))
  clear g0 g1 g2 g3 g4
  rintro ⟨env, ⟨sto, c⟩⟩ ⟨g0, g1, g2, g3, g4⟩
  simp only at g0 g1 g2 g3 g4
  rw [Z0]
  simp (disch := first | omega | rfl | assumption) only [↓Xp, ↓Xt, Xq, Xc, binP, ofCells, Nat.reduceAdd, Nat.reduceMul, Nat.reduceLT, Nat.reduceEqDiff, reduceIte, Xa, Xn, unP, len_f, len_n, len_r, Xm, Nat.reduceLeDiff, g0, g1, g2, g3, g4, h9]
  refine WV_callT (hd3 _ _ _) (s_segd (n := a) (each := 1 + one % 9) (by omega) (by omega) hE (by omega) (by omega)) (OutV.osl _ _ _) rfl rfl (clO_bytes _) (by rw [len_ofBytes, Nat.mul_one]) (by first | omega | (simp only [Z0L_, Z0M_, Nat.add_assoc, Nat.reduceAdd]; omega) | (simp only; omega)) ?_
  intro w1 st1 o1 _ c1 f1
  simp only at c1
  simp (disch := first | omega | rfl | assumption) only [↓Xp, ↓Xt, Xq, Xc, binP, ofCells, Nat.reduceAdd, Nat.reduceMul, Nat.reduceLT, Nat.reduceEqDiff, reduceIte, Xa, Xn, unP, len_f, len_n, len_r, Xm, Nat.reduceLeDiff, g0, g1, g2, g3, g4, List.nil_append]
  rw [Z0]
  simp (disch := first | omega | rfl | assumption) only [↓Xp, ↓Xt, Xq, Xc, binP, ofCells, Nat.reduceAdd, Nat.reduceMul, Nat.reduceLT, Nat.reduceEqDiff, reduceIte, Xa, Xn, unP, len_f, len_n, len_r, Xm, Nat.reduceLeDiff, g0, g1, g2, g3, g4, List.nil_append, h9]
  refine WV_callT (hd3 _ _ _) (s_segd (n := a) (each := 1 + two % 9) (by omega) (by omega) hE (by omega) (by omega)) (OutV.osl _ _ _) rfl rfl (clO_bytes _) (by rw [len_ofBytes, Nat.mul_one]) (by first | omega | (simp only [Z0L_, Z0M_, Nat.add_assoc, Nat.reduceAdd]; omega) | (simp only; omega)) ?_
  intro w2 st2 o2 _ c2 f2
  simp only at c2
  replace o1 := o1.over f2 rfl (by omega) (by omega)
  have hfl : ∀ e : Nat, 1 ≤ e → (chunks e l.length l).flatten = l := fun e he => chunks_flat he l.length l (Nat.le_refl _)
  have hgd : ∀ e : Nat, 1 ≤ e → e ≤ 9 → ∀ c ∈ chunks e l.length l, goodF c := fun e h1 h2 => chunks_good h1 (by omega) l.length hE
  have hsz : ∀ e : Nat, 1 ≤ e → e ≤ 9 → (segB a (chunks e l.length l)).length ≤ 60000000 := fun e h1 h2 => by
    have h3 := flat_len _ (hgd e h1 h2)
    have h4 := @chunks_len e l.length l
    have h5 := @headB_len a
    unfold segB
    rw [List.length_append]; omega
  have sc : ∀ e : Nat, 1 ≤ e → e ≤ 9 → scanR (segB a (chunks e l.length l)) = .inl (a, l, ((segB a (chunks e l.length l)).length : Int)) := fun e h1 h2 => by
    have := scan_seg (n := a) (by omega) (hgd e h1 h2) (rest := []) (fun l r _ => no_frame_nil)
    rwa [List.append_nil, hfl e h1] at this
  have sz : ∀ e : Nat, 1 ≤ e → e ≤ 9 → scanR (segB a (chunks e l.length l) ++ (0 :: bh)) = .inl (a, l, ((segB a (chunks e l.length l)).length : Int)) := fun e h1 h2 => by
    have := scan_seg (n := a) (by omega) (hgd e h1 h2) (rest := 0 :: bh) (fun l r hl => no_frame_zero hl)
    rwa [hfl e h1] at this
  have s1 := hsz (1 + one % 9) (by omega) (by omega)
  have s2 := hsz (1 + two % 9) (by omega) (by omega)
  have t1 := sc (1 + one % 9) (by omega) (by omega)
  have t2 := sc (1 + two % 9) (by omega) (by omega)
  have u1 := sz (1 + one % 9) (by omega) (by omega)
  clear sc sz hsz hfl hgd
  generalize segB a (chunks (1 + one % 9) l.length l) = S1 at *
  generalize segB a (chunks (1 + two % 9) l.length l) = S2 at *
  simp (disch := first | omega | rfl | assumption) only [↓Xp, ↓Xt, Xq, Xc, binP, ofCells, Nat.reduceAdd, Nat.reduceMul, Nat.reduceLT, Nat.reduceEqDiff, reduceIte, Xa, Xn, unP, len_f, len_n, len_r, Xm, Nat.reduceLeDiff, g0, g1, g2, g3, g4, List.nil_append]
  rw [Z0]
  simp (disch := first | omega | rfl | assumption) only [↓Xp, ↓Xt, Xq, Xc, binP, ofCells, Nat.reduceAdd, Nat.reduceMul, Nat.reduceLT, Nat.reduceEqDiff, reduceIte, Xa, Xn, unP, len_f, len_n, len_r, Xm, Nat.reduceLeDiff, g0, g1, g2, g3, g4, List.nil_append]
  refine WV_callT (deepL_one (o1.cnt (by omega)).deepV) (s_scan_ok rfl o1.inV (by omega) t1) (OutV.evsO _) rfl rfl (clO_evs _) (evsC_len _) (by first | omega | (simp only [Z0L_, Z0M_, Nat.add_assoc, Nat.reduceAdd]; omega) | (simp only; omega)) ?_
  intro x1 st3 o3 _ c3 f3
  simp only at c3
  replace o1 := o1.over f3 rfl (by omega) (by omega)
  replace o2 := o2.over f3 rfl (by omega) (by omega)
  simp (disch := first | omega | rfl | assumption) only [↓Xp, ↓Xt, Xq, Xc, binP, ofCells, Nat.reduceAdd, Nat.reduceMul, Nat.reduceLT, Nat.reduceEqDiff, reduceIte, Xa, Xn, unP, len_f, len_n, len_r, Xm, Nat.reduceLeDiff, g0, g1, g2, g3, g4, List.cons_append, List.nil_append]
  rw [Z0]
  simp (disch := first | omega | rfl | assumption) only [↓Xp, ↓Xt, Xq, Xc, binP, ofCells, Nat.reduceAdd, Nat.reduceMul, Nat.reduceLT, Nat.reduceEqDiff, reduceIte, Xa, Xn, unP, len_f, len_n, len_r, Xm, Nat.reduceLeDiff, g0, g1, g2, g3, g4, List.nil_append]
  refine WV_callT (deepL_one (o2.cnt (by omega)).deepV) (s_scan_ok rfl o2.inV (by omega) t2) (OutV.evsO _) rfl rfl (clO_evs _) (evsC_len _) (by first | omega | (simp only [Z0L_, Z0M_, Nat.add_assoc, Nat.reduceAdd]; omega) | (simp only; omega)) ?_
  intro x2 st4 o4 _ c4 f4
  simp only at c4
  replace o1 := o1.over f4 rfl (by omega) (by omega)
  replace o2 := o2.over f4 rfl (by omega) (by omega)
  replace o3 := o3.over f4 rfl (by omega) (by omega)
  have n1 := o1.len
  have n2 := o2.len
  have e1 := fun M (hM : st4.cnt ≤ M) key => k4_samee (callE := evFn cfgL10 401) (cfg := cfgL10) rfl (st := ⟨st4.sto, M⟩) (key := key) (deepL_two ((o3.cnt hM).deepE rfl).1 (deep_ev0 (inEl_fsl l))) ((o3.deepE rfl).2) (inEl_fsl l) (by omega)
  have e2 := fun M (hM : st4.cnt ≤ M) key => k4_samee (callE := evFn cfgL10 401) (cfg := cfgL10) rfl (st := ⟨st4.sto, M⟩) (key := key) (deepL_two ((o4.cnt hM).deepE rfl).1 (deep_ev0 (inEl_fsl l))) ((o4.deepE rfl).2) (inEl_fsl l) (by omega)
  simp (disch := first | omega | rfl | assumption) only [↓Xp, ↓Xt, Xq, Xc, binP, ofCells, Nat.reduceAdd, Nat.reduceMul, Nat.reduceLT, Nat.reduceEqDiff, reduceIte, Xa, Xn, unP, len_f, len_n, len_r, Xm, Nat.reduceLeDiff, g0, g1, g2, g3, g4, List.cons_append, List.nil_append]
  rw [Z0, Z0]
  simp (maxSteps := 2000000) (disch := first | omega | rfl | assumption) only [↓Xp, ↓Xt, Xq, Xc, binP, ofCells, Nat.reduceAdd, Nat.reduceMul, Nat.reduceLT, Nat.reduceEqDiff, reduceIte, Xa, Xn, unP, len_f, len_n, len_r, Xm, Nat.reduceLeDiff, g0, g1, g2, g3, g4, n1, n2, e1, e2, decide_true]
  rw [Z0]
  simp (maxSteps := 2000000) (disch := first | omega | rfl | assumption) only [↓Xp, ↓Xt, Xq, Xc, binP, ofCells, Nat.reduceAdd, Nat.reduceMul, Nat.reduceLT, Nat.reduceEqDiff, reduceIte, Xa, Xn, unP, len_f, len_n, len_r, Xm, Nat.reduceLeDiff, g0, g1, g2, g3, g4]
  refine WV_callB (deepL_one (o1.cnt (by omega)).deepV) (s_copyb rfl o1.inV (by unfold maxBytes; omega)) (by first | omega | (simp only [Z0L_, Z0M_, Nat.add_assoc, Nat.reduceAdd]; omega) | (simp only; omega)) ?_
  intro st5 o5 _ c5 f5
  simp only at c5
  have hco : ∀ (S : St) (k : Nat), cellsOf (S.put k (some (.cells [.i .u8 ((0 : Nat) : Int)] false))) 1 (.rsl k 1 0 1) = some (1, [.i .u8 ((0 : Nat) : Int)]) := fun S k => by
    rw [cells_putL]; rfl
  have hone : ([.i .u8 ((0 : Nat) : Int)] : List PV).all PV.one = true := rfl
  have hcb : ∀ st, cellsOf st 1 (.fsl bh.length (ofBytes bh)) = some (bh.length, ofBytes bh) := fun st => cells_in (in_fsl bh)
  have honb := one_ofBytes bh
  have hb8 : (ofBytes bh).all PV.one = true := honb
  simp only [hco, hone, if_true]
  refine WV_appO (o5.put (by simp [keyOf])) (by show _ < st5.cnt; omega) (by simp [keyOf]) (m := 1) rfl (by decide) (by unfold maxBytes; omega) ?_
  intro v6 st6 o6 c6 q6 f6
  simp only [hcb, hb8, if_true]
  have c6' : st6.cnt = st5.cnt := c6
  refine WV_appO o6 (by omega) (fun h => by have := q6 _ h; omega) (m := bh.length) (by rw [len_ofBytes, Nat.mul_one]) (by decide) (by unfold maxBytes; omega) ?_
  intro v7 st7 o7 c7 q7 f7
  have hall : ofBytes S1 ++ [.i .u8 ((0 : Nat) : Int)] ++ ofBytes bh = ofBytes (S1 ++ 0 :: bh) := by
    unfold ofBytes
    rw [List.map_append, List.map_cons, List.append_assoc]; rfl
  rw [hall] at o7
  refine WV_callT (deepL_one o7.deepV) (s_scan_ok rfl o7.inV (by rw [List.length_append, List.length_cons]; omega) u1) (OutV.evsO _) rfl rfl (clO_evs _) (evsC_len _) (by omega) ?_
  intro z st8 o8 _ c8 f8
  have e3 := fun M (hM : st8.cnt ≤ M) key => k4_samee (callE := evFn cfgL10 401) (cfg := cfgL10) rfl (st := ⟨st8.sto, M⟩) (key := key) (deepL_two ((o8.cnt hM).deepE rfl).1 (deep_ev0 (inEl_fsl l))) ((o8.deepE rfl).2) (inEl_fsl l) (by omega)
  simp (maxSteps := 2000000) (disch := first | omega | rfl | assumption) only [↓Z0, ↓Xp, ↓Xt, Xq, Xc, binP, ofCells, Nat.reduceAdd, Nat.reduceMul, Nat.reduceLT, Nat.reduceEqDiff, reduceIte, Xm, Nat.reduceLeDiff, Xa, Xn, unP, len_f, len_n, len_r, g0, g1, g2, g3, g4, List.cons_append, List.nil_append, e3, aw, decide_true]
  refine ⟨nofun, _, rfl, ?_⟩
  simp only [tupV, ↓Z0, ↓Xp, ↓Xt, Xq, Xc, binP, ofCells, Nat.reduceAdd, Nat.reduceMul, Nat.reduceLT, Nat.reduceEqDiff, reduceIte]
theorem sframed_law (a : Int) (ha : (Lit.int .u32 a).wf = true) (n : Nat) (ps : List PV) (hl : ps.length = n * evSh.width) (hn : n ≤ reachBytes) (h : ∀ j, j < n → evSh.Is ((ps.drop (j * evSh.width)).take evSh.width)) (one : Int) (h1 : (Lit.int .u8 one).wf = true) (two : Int) (h2 : (Lit.int .u8 two).wf = true) (n2 : Nat) (ps2 : List PV) (hl2 : ps2.length = n2 * (Sh.i .u8).width) (hn2 : n2 ≤ reachBytes) (hh : ∀ j, j < n2 → (Sh.i .u8).Is ((ps2.drop (j * (Sh.i .u8).width)).take (Sh.i .u8).width)) : ∃ fuel, evP cfgL10 fuel 10 [.i .u32 a, .fsl n ps, .i .u8 one, .i .u8 two, .fsl n2 ps2] = some (.b true) := by
  obtain ⟨l, rfl, rfl, hE⟩ := is_evs hl h
  obtain ⟨b, rfl, rfl⟩ := is_bytes hl2 hh
  have h3 := u32_wf ha
  have h4 := u8_wf h1
  have h5 := u8_wf h2
  obtain ⟨a, rfl⟩ : ∃ k : Nat, a = k := ⟨a.toNat, by omega⟩
  obtain ⟨one, rfl⟩ : ∃ k : Nat, one = k := ⟨one.toNat, by omega⟩
  obtain ⟨two, rfl⟩ : ∃ k : Nat, two = k := ⟨two.toNat, by omega⟩
  exact framed_ev (by omega) (by omega) (by omega) hE
end Go.Pe
