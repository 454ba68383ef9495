/-
  SegmentRuns, by the interpreter of plain data. No condition.
-/
import Derived.Test.YtogdkhejfkbnmaaSegJ
import Derived.Test.YtogdkhejfkbnmaaSegN
import Derived.Test.YtogdkhejfkbnmaaPeL5
import Derived.Test.YtogdkhejfkbnmaaEvtAr
set_option linter.unusedVariables false
set_option linter.unusedSimpArgs false
namespace Go.Pe
open Go Go.Am Go.RowKit

noncomputable def cfgL5 : Cfg := { fn := fun f => lookT f tblX5, ext := extS4 }
theorem cfgL5_ok {Gl : Gmap} : CfgOK Go.Proofs.Try.prog Gl cfgL5 := cfg_okt tbl_all5 extS4_ok
theorem evsC_take : ∀ (l : List Ev) (m : Nat), (evsC l).take (m * 5) = evsC (l.take m)
  | [], m => by simp [evsC]
  | e :: r, 0 => by simp [evsC]
  | e :: r, m + 1 => by
    have h : evsC (e :: r) = evC e ++ evsC r := rfl
    have h2 : evsC ((e :: r).take (m + 1)) = evC e ++ evsC (r.take m) := rfl
    have h5 : (evC e).length = 5 := rfl
    rw [h, h2, show (m + 1) * 5 = (evC e).length + m * 5 by rw [h5]; omega, List.take_length_add_append, evsC_take r m]
theorem evsC_drop5 : ∀ (l : List Ev) (m : Nat), (evsC l).drop (m * 5) = evsC (l.drop m)
  | [], m => by simp [evsC]
  | e :: r, 0 => by simp
  | e :: r, m + 1 => by
    have h : evsC (e :: r) = evC e ++ evsC r := rfl
    have h5 : (evC e).length = 5 := rfl
    rw [h, show (m + 1) * 5 = (evC e).length + m * 5 by rw [h5]; omega, List.drop_length_add_append, evsC_drop5 r m]
    rfl
theorem deep_eT {st : St} {k m : Nat} {fz : Bool} {L : List Ev} (hk : st.get k = some (.cells (evsC L) fz)) (hm : m ≤ L.length) : Go.Pe.deep st 12 (.rsl k 5 0 m) = some (.fsl (L.take m).length (evsC (L.take m))) := by
  have hl : (L.take m).length = m := by rw [List.length_take]; omega
  rw [hl]
  show Go.Pe.deep st (11 + 1) _ = _
  unfold Go.Pe.deep
  simp only [hk, cut?, evsC_len]
  rw [if_pos (by omega)]
  simp only [List.drop_zero]
  rw [evsC_take, deepO_evs]
  rfl
theorem load_own {st : St} {q : Nat} {fz : Bool} {L : List Ev} (hk : st.get q = some (.cells (evsC L) fz)) {i : Nat} (hi : i < L.length) : loadP st 5 (.ptr q (i * 5)) = some (evC (L.getD i .zero)) := by
  have hd : (evsC L).drop (i * 5) = evC (L.getD i .zero) ++ evsC (L.drop (i + 1)) := by
    rw [evsC_drop5, List.drop_eq_getElem_cons hi]
    have : evsC (L[i] :: L.drop (i + 1)) = evC L[i] ++ evsC (L.drop (i + 1)) := rfl
    rw [this]
    simp [List.getD_eq_getElem?_getD, hi]
  unfold loadP
  simp only [hk]
  unfold cut?
  rw [if_pos (by rw [evsC_len]; omega), hd]
  rfl
set_option maxHeartbeats 8000000 in
set_option maxRecDepth 100000 in
theorem runs_ev {e b : Ev} {n : Nat} (hn : n < 256) (he : EvIn e) (hb : EvIn b) : ∃ fuel, evP cfgL5 fuel 5 [.agg (evC e), .agg (evC b), .i .u8 (n : Int)] = some (.b true) := by
  refine ⟨310 + 1, ev_flat rfl rfl (fun _ => rfl) (evFn_W (by kernel_rfl : cfgL5.fn 5 = some m5) ?_)⟩
  unfold m5
  have aw := fun st key => s_awake (callE := evFn cfgL5 310) (cfg := cfgL5) rfl st key
  have oe : (PV.agg (evC e)).cells.all PV.one = true := rfl
  have ob : (PV.agg (evC b)).cells.all PV.one = true := rfl
  refine Za (fun x => x.env.get 2 = .i .u8 (n : Int) ∧ x.env.get 3 = .ptr 1 0 ∧ x.env.get 4 = .ptr 9 0 ∧ x.st.get 1 = some (.cells (evC e) false) ∧ x.st.get 9 = some (.cells (evC b) false) ∧ x.st.cnt = 25) ?_ ?_
  · simp only [↓Z0, ↓Xp, ↓Xt, Xq, Xc, binP, ofCells, Nat.reduceAdd, Nat.reduceMul, Nat.reduceLT, Nat.reduceEqDiff, reduceIte, Xm, Nat.reduceLeDiff, putArgs, oe, ob]
    (repeat' (first | exact True.intro | rfl | assumption | omega | apply And.intro | exact St.get_putk _ _ _ | refine ⟨_, rfl, ?_⟩))
  rintro ⟨env, ⟨sto, c⟩⟩ ⟨g2, g3, g4, k1, k9, hc⟩
  simp only at g2 g3 g4 k1 k9 hc
  replace k1 : ∀ n, St.get ⟨sto, n⟩ 1 = some (.cells (evC e) false) := fun _ => k1
  replace k9 : ∀ n, St.get ⟨sto, n⟩ 9 = some (.cells (evC b) false) := fun _ => k9
  subst hc
  have hld0 : ∀ n, loadP ⟨sto, n⟩ 5 (.ptr 1 0) = some (evC e) := fun n => load_whole (st := ⟨sto, n⟩) (k1 n) rfl
  refine Za (fun x => x.env.get 2 = .i .u8 (n : Int) ∧ x.env.get 4 = .ptr 9 0 ∧ x.st.get 9 = some (.cells (evC b) false) ∧ x.env.get 7 = .rsl 33 5 0 1 ∧ x.st.get 33 = some (.cells (evC e) false) ∧ (33 < x.st.cnt)) ?_ ?_
  · simp only [↓Z0, ↓Xp, ↓Xt, Xq, Xc, binP, ofCells, Nat.reduceAdd, Nat.reduceMul, Nat.reduceLT, Nat.reduceEqDiff, reduceIte, Xm, Nat.reduceLeDiff, g2, g3, g4, k1, k9, hld0, evC]
    (repeat' (first | exact True.intro | rfl | assumption | omega | apply And.intro | exact St.get_putk _ _ _ | refine ⟨_, rfl, ?_⟩))
  clear g2 g3 g4 k1 k9
  rintro ⟨env, ⟨sto, c⟩⟩ ⟨g2, g4, k9, g7, q33, hc33⟩
  simp only at g2 g4 k9 g7 q33 hc33
  replace k9 : ∀ n, St.get ⟨sto, n⟩ 9 = some (.cells (evC b) false) := fun _ => k9
  replace q33 : ∀ n, St.get ⟨sto, n⟩ 33 = some (.cells (evC e) false) := fun _ => q33
  obtain ⟨N, hN⟩ : ∃ N, 2 + n % 199 = N := ⟨_, rfl⟩
  have h199 : ((((199 : Nat) : Int)) = 0) = False := by simp
  refine Za (fun x => ∃ w, x.env.get 7 = w ∧ Own x.st 5 w N (evsC (ramp b e N))) ?_ ?_
  · rw [Z0]
    simp (disch := first | omega | rfl | assumption) only [↓Xp, ↓Xt, Xq, Xc, binP, ofCells, Nat.reduceAdd, Nat.reduceMul, Nat.reduceLT, Nat.reduceEqDiff, reduceIte, Xa, Xn, g2, g4, k9, g7, q33]
    refine Z9 (k := N - 1) (fun d x => ∃ (j : Nat) (w : PV), j + 1 ≤ N ∧ d = N - (j + 1) ∧ x.env.get 2 = .i .u8 (n : Int) ∧ x.env.get 4 = .ptr 9 0 ∧ x.env.get 7 = w ∧ x.env.get 8 = .i .i64 ((j + 1 : Nat) : Int) ∧ x.st.get 9 = some (.cells (evC b) false) ∧ Own x.st 5 w (j + 1) (evsC (ramp b e (j + 1))) ∧ (∀ k, k ∈ keyOf w → 9 < k) ∧ 9 < x.st.cnt) ?_ ?_ (by omega)
    · skip
      clear g2 g4 k9 g7 q33 hc33
      rintro d ⟨env, ⟨sto, c⟩⟩ ⟨j, w, hj, rfl, g2, g4, g7, g8, k9, o7, hw9, hc9⟩
      simp only at g2 g4 g7 g8 k9 hc9
      replace k9 : ∀ n, St.get ⟨sto, n⟩ 9 = some (.cells (evC b) false) := fun _ => k9
      by_cases hlt : j + 1 < N
      · have hrl := ramp_len b (j + 1) e
        obtain ⟨q, rfl, hq, hqc⟩ : ∃ q, w = .rsl q 5 0 (j + 1) ∧ (⟨sto, c⟩ : St).get q = some (.cells (evsC (ramp b e (j + 1))) false) ∧ q < c := by
          rcases o7 with ⟨_, h0, _⟩ | ⟨k, rfl, h1, _, h3⟩
          · omega
          · exact ⟨k, rfl, h1, h3⟩
        have hq9 : 9 < q := hw9 q (by simp [keyOf])
        have hsub : (((j + 1 : Nat) : Int)) - ((1 : Nat) : Int) = (j : Int) := by omega
        obtain ⟨P, hP⟩ : ∃ P, (ramp b e (j + 1)).getD j .zero = P := ⟨_, rfl⟩
        have hld : ∀ n, loadP ⟨sto, n⟩ 5 (.ptr q (j * 5)) = some (evC P) := fun n => by
          rw [← hP]
          exact load_own (st := ⟨sto, n⟩) hq (by omega)
        have hldC : ∀ n, loadC ((⟨sto, n⟩ : St).get q) 5 (j * 5) = some (evC P) := hld
        have hco : ∀ (S : St) (k : Nat) (x0 x1 x2 x3 x4 : Int), cellsOf (S.put k (some (.cells [.i .i64 x0, .i .u8 x1, .i .i64 x2, .i .i64 x3, .i .i64 x4] false))) 5 (.rsl k 5 0 1) = some (1, [.i .i64 x0, .i .u8 x1, .i .i64 x2, .i .i64 x3, .i .i64 x4]) := fun S k x0 x1 x2 x3 x4 => by
          rw [cells_putL]; rfl
        have hone : ∀ (x0 x1 x2 x3 x4 : Int), ([.i .i64 x0, .i .u8 x1, .i .i64 x2, .i .i64 x3, .i .i64 x4] : List PV).all PV.one = true := fun _ _ _ _ _ => rfl
        simp (disch := first | omega | rfl | assumption) only [↓Z0, ↓Xp, ↓Xt, Xq, Xc, binP, ofCells, Nat.reduceAdd, Nat.reduceMul, Nat.reduceLT, Nat.reduceEqDiff, reduceIte, Xm, Nat.reduceLeDiff, Xa, Xn, g2, g4, g7, g8, k9, hldC, hsub, h199, evC, hco, hone]
        refine WV_appO (o7.move (by first | omega | (simp only [Z0L_, Z0M_, Nat.add_assoc, Nat.reduceAdd]; omega) | (simp only; omega)) (fun j hj hc => by (try simp only at hc); first | rfl | (simp (disch := omega) only [Z0I_, Z0J_]; done) | (simp (disch := omega) only [Z0I_, Z0J_]; rfl))) (by first | omega | (simp only [Z0L_, Z0M_, Nat.add_assoc, Nat.reduceAdd]; omega) | (simp only; omega)) (fun h => by simp [keyOf] at h; omega) (m := 1) rfl (by decide) (by unfold maxBytes; omega) ?_
        intro v2 st2 o2 c2 kk2 f2
        simp only [Z0L_, Z0M_] at c2
        refine ⟨N - (j + 1 + 1), by omega, j + 1, v2, by omega, rfl, rfl, rfl, ?_, ?_, ?_⟩
        · rw [f2 9 (by omega) (by simp [keyOf]; omega)]
          simp (disch := omega) only [Z0I_, Z0J_]
          exact k9 _
        · rw [ramp_snoc, hP, evsC_append]
          have o3 : Own st2 5 v2 (j + 1 + 1) (evsC (ramp b e (j + 1)) ++ evsC [nextE P b]) := o2
          exact o3.cnt (by omega)
        · intro k hk
          have := kk2 k hk
          omega
      · have hj' : j + 1 = N := by omega
        simp (disch := first | omega | rfl | assumption) only [↓Z0, ↓Xp, ↓Xt, Xq, Xc, binP, ofCells, Nat.reduceAdd, Nat.reduceMul, Nat.reduceLT, Nat.reduceEqDiff, reduceIte, Xm, Nat.reduceLeDiff, Xa, Xn, g2, g4, g7, g8, h199]
        rw [← hj']
        exact ⟨w, rfl, o7.move (by simp only; omega) (fun _ _ _ => rfl)⟩
    · refine ⟨0, .rsl 33 5 0 1, by omega, rfl, ?_⟩
      simp only [Env.get_put, Nat.reduceEqDiff, if_false, if_true, g2, g4, k9, g7, q33]
      refine ⟨by first | trivial | rfl, by first | trivial | rfl, by first | trivial | rfl, by first | trivial | rfl, by first | trivial | exact k9 _, .inr ⟨33, rfl, q33 _, rfl, by first | omega | (simp only; omega)⟩, ?_, by first | omega | (simp only; omega)⟩
      intro k hk
      simp [keyOf] at hk
      omega
  clear g2 g4 k9 g7 q33 hc33
  rintro ⟨env, ⟨sto, c⟩⟩ ⟨w, g7, o7⟩
  simp only at g7 o7
  have hrl := ramp_len b N e
  obtain ⟨q, rfl, hq, hqc⟩ : ∃ q, w = .rsl q 5 0 N ∧ (⟨sto, c⟩ : St).get q = some (.cells (evsC (ramp b e N)) false) ∧ q < c := by
    rcases o7 with ⟨_, h0, _⟩ | ⟨k, rfl, h1, _, h3⟩
    · omega
    · exact ⟨k, rfl, h1, h3⟩
  have h2 := deep_eT (m := 2) (L := ramp b e N) hq (by omega)
  rw [ramp_take b N e 2 (by omega), ramp_len] at h2
  have hsl : ∀ (a N : Nat) (_ : 2 ≤ N), sliceP 5 none (some (.i .i64 ((2 : Nat) : Int))) (.rsl a 5 0 N) = some (.rsl a 5 0 2) := fun a N h => by
    have hb1 : bound (some (.i .i64 ((2 : Nat) : Int))) N N = some 2 := by
      show (if _ then _ else _) = _
      rw [if_pos (by omega)]; rfl
    unfold sliceP
    simp only [hb1, Z0B_]
    rw [if_pos ⟨trivial, Or.inr trivial⟩]
  have hd2 : ∀ n, deepL ⟨sto, n⟩ [.i .i64 ((0 : Nat) : Int), .rsl q 5 0 2] = some [.i .i64 ((0 : Nat) : Int), .fsl 2 (evsC (ramp b e 2))] := fun n => deepL_two rfl h2
  have hroom := @ramp_room e b hb N (by omega) (by omega)
  have hpl := @packB_len 0 (ramp b e N)
  have hin2 : inEl (.fsl 2 (evsC (ramp b e 2))) = some (ramp b e 2) := inEl_fsl (ramp b e 2)
  rw [Z0]
  simp (disch := first | omega | rfl | assumption) only [↓Xp, ↓Xt, Xq, Xc, binP, ofCells, Nat.reduceAdd, Nat.reduceMul, Nat.reduceLT, Nat.reduceEqDiff, reduceIte, Xa, Xn, unP, len_f, len_n, len_r, Xm, Nat.reduceLeDiff, g7, hsl]
  refine WV_callT (hd2 _) (s_pack rfl (n := 0) hin2 (by simp [ramp]) (by rw [ramp_len]; omega) (by omega)) (OutV.osl _ _ _) rfl rfl (clO_bytes _) (by rw [len_ofBytes, Nat.mul_one]) (by first | omega | (simp only [Z0L_, Z0M_, Nat.add_assoc, Nat.reduceAdd]; omega) | (simp only; omega)) ?_
  intro p1 st1 o1 _ c1 f1
  simp only at c1
  replace o7 := o7.over f1 rfl (by simp only; omega) (by simp only; omega)
  simp (disch := first | omega | rfl | assumption) only [↓Xp, ↓Xt, Xq, Xc, binP, ofCells, Nat.reduceAdd, Nat.reduceMul, Nat.reduceLT, Nat.reduceEqDiff, reduceIte, Xa, Xn, unP, len_f, len_n, len_r, Xm, Nat.reduceLeDiff, g7, List.nil_append]
  rw [Z0]
  simp (disch := first | omega | rfl | assumption) only [↓Xp, ↓Xt, Xq, Xc, binP, ofCells, Nat.reduceAdd, Nat.reduceMul, Nat.reduceLT, Nat.reduceEqDiff, reduceIte, Xa, Xn, unP, len_f, len_n, len_r, Xm, Nat.reduceLeDiff, g7, List.nil_append]
  refine WV_callT (deepL_two rfl ((o7.cnt (by omega)).deepE hrl.symm).1) (s_pack rfl (n := 0) ((o7.deepE hrl.symm).2) (fun h => by rw [h] at hrl; simp at hrl; omega) (by omega) (by omega)) (OutV.osl _ _ _) rfl rfl (clO_bytes _) (by rw [len_ofBytes, Nat.mul_one]) (by first | omega | (simp only [Z0L_, Z0M_, Nat.add_assoc, Nat.reduceAdd]; omega) | (simp only; omega)) ?_
  intro p2 st2 o2 _ c2 f2
  simp only at c2
  replace o7 := o7.over f2 rfl (by omega) (by omega)
  replace o1 := o1.over f2 rfl (by omega) (by omega)
  simp (disch := first | omega | rfl | assumption) only [↓Xp, ↓Xt, Xq, Xc, binP, ofCells, Nat.reduceAdd, Nat.reduceMul, Nat.reduceLT, Nat.reduceEqDiff, reduceIte, Xa, Xn, unP, len_f, len_n, len_r, Xm, Nat.reduceLeDiff, g7, List.nil_append]
  rw [Z0]
  simp (disch := first | omega | rfl | assumption) only [↓Xp, ↓Xt, Xq, Xc, binP, ofCells, Nat.reduceAdd, Nat.reduceMul, Nat.reduceLT, Nat.reduceEqDiff, reduceIte, Xa, Xn, unP, len_f, len_n, len_r, Xm, Nat.reduceLeDiff, g7, List.nil_append]
  refine WV_callT (deepL_one (o2.cnt (by omega)).deepV) (s_unpack_ok rfl o2.inV (by omega) (unpackR_B (n := 0) (by omega) (by omega) (by omega) (ramp_in N he))) (OutV.osl _ _ _) rfl rfl (clO_evs _) (evsC_len _) (by first | omega | (simp only [Z0L_, Z0M_, Nat.add_assoc, Nat.reduceAdd]; omega) | (simp only; omega)) ?_
  intro u st3 o3 _ c3 f3
  simp only at c3
  replace o7 := o7.over f3 rfl (by omega) (by omega)
  replace o1 := o1.over f3 rfl (by omega) (by omega)
  replace o2 := o2.over f3 rfl (by omega) (by omega)
  have n1 := o1.len
  have n2 := o2.len
  have sse := fun M (hM : st3.cnt ≤ M) key => k4_samee (callE := evFn cfgL5 310) (cfg := cfgL5) rfl (st := ⟨st3.sto, M⟩) (key := key) (deepL_two ((o3.cnt hM).deepE rfl).1 ((o7.cnt hM).deepE hrl.symm).1) ((o3.deepE rfl).2) ((o7.deepE hrl.symm).2) (by omega)
  simp (disch := first | omega | rfl | assumption) only [↓Z0, ↓Xp, ↓Xt, Xq, Xc, binP, ofCells, Nat.reduceAdd, Nat.reduceMul, Nat.reduceLT, Nat.reduceEqDiff, reduceIte, Xm, Nat.reduceLeDiff, Xa, Xn, unP, len_f, len_n, len_r, g7, List.cons_append, List.nil_append, n1, n2, sse, aw, decide_true]
  refine ⟨nofun, _, rfl, ?_⟩
  simp only [tupV, ↓Z0, ↓Xp, ↓Xt, Xq, Xc, binP, ofCells, Nat.reduceAdd, Nat.reduceMul, Nat.reduceLT, Nat.reduceEqDiff, reduceIte]
theorem sruns_law (es : List PV) (he : evSh.Is es) (bs : List PV) (hb : evSh.Is bs) (n : Int) (hn : (Lit.int .u8 n).wf = true) : ∃ fuel, evP cfgL5 fuel 5 [.agg es, .agg bs, .i .u8 n] = some (.b true) := by
  obtain ⟨e, rfl, he2⟩ := is_ev he
  obtain ⟨b, rfl, hb2⟩ := is_ev hb
  have h1 := u8_wf hn
  obtain ⟨n, rfl⟩ : ∃ k : Nat, n = k := ⟨n.toNat, by omega⟩
  exact runs_ev (by omega) he2 hb2
end Go.Pe
