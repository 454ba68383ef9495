/-
  SegmentTurned, by the interpreter of plain data. No condition.
-/
import Derived.Test.YtogdkhejfkbnmaaSegJ
import Derived.Test.YtogdkhejfkbnmaaPeL7
import Derived.Test.YtogdkhejfkbnmaaEvtAr
set_option linter.unusedVariables false
set_option linter.unusedSimpArgs false
namespace Go.Pe
open Go Go.Am Go.RowKit

noncomputable def cfgL7 : Cfg := { fn := fun f => lookT f tblX7, ext := extS4 }
theorem cfgL7_ok {Gl : Gmap} : CfgOK Go.Proofs.Try.prog Gl cfgL7 := cfg_okt tbl_all7 extS4_ok
theorem unpackR_other {D B : List UInt8} (hc : crc B ≠ crc D) : unpackR (B ++ be4 (crc D)) = .inr 12 := by
  have hl : (B ++ be4 (crc D)).length = B.length + 4 := by rw [List.length_append]; rfl
  have ht : (B ++ be4 (crc D)).take ((B ++ be4 (crc D)).length - 4) = B := by rw [hl, Nat.add_sub_cancel, List.take_left]
  have hs : ¬ sealB B = B ++ be4 (crc D) := by
    intro h
    unfold sealB at h
    exact hc (be4_inj (crc_lt _) (crc_lt _) (List.append_cancel_left h))
  unfold unpackR
  rw [if_neg (by omega), ht, if_neg hs]
theorem unpackR_turned {D : List UInt8} {p : Nat} {ts : List UInt8} (h4 : ts.length ≤ 4) (hp : p + ts.length ≤ D.length) :
    ((∀ t ∈ ts, t = 0) → xorAt (sealB D) p ts = sealB D) ∧ ((∃ t ∈ ts, t ≠ 0) → unpackR (xorAt (sealB D) p ts) = .inr 12) := by
  obtain ⟨a, ha⟩ : ∃ a, D.take p = a := ⟨_, rfl⟩
  obtain ⟨x, hx⟩ : ∃ x, (D.drop p).take ts.length = x := ⟨_, rfl⟩
  obtain ⟨s, hs⟩ : ∃ s, (D.drop p).drop ts.length = s := ⟨_, rfl⟩
  have hal : a.length = p := by rw [← ha, List.length_take]; omega
  have hxl : x.length = ts.length := by rw [← hx, List.length_take, List.length_drop]; omega
  have hb : D = a ++ x ++ s := by rw [← ha, ← hx, ← hs, List.append_assoc, List.take_append_drop, List.take_append_drop]
  have key : xorAt (sealB D) p ts = (a ++ List.zipWith (· ^^^ ·) x ts ++ s) ++ be4 (crc D) := by
    have := xorAt_eq ts a x (s ++ be4 (crc D)) hxl
    rw [hal] at this
    unfold sealB
    have e : D ++ be4 (crc D) = a ++ (x ++ (s ++ be4 (crc D))) := by
      generalize be4 (crc D) = c
      rw [hb]
      simp
    rw [e, this]
    simp
  constructor
  · intro h
    rw [key, zipx_zero hxl h, ← hb]; rfl
  · rintro ⟨t, ht, hne⟩
    rw [key]
    refine unpackR_other ?_
    intro hc
    rw [hb] at hc
    have := crc_burst (by simp [hxl]) (by simp [hxl]; omega) hc
    exact hne (zipx_same hxl this t ht)
theorem any_take_succ {t : List UInt8} {i : Nat} (hi : i < t.length) : (t.take (i + 1)).any (· != 0) = ((t.take i).any (· != 0) || (t.getD i 0 != 0)) := by
  rw [List.take_add_one, List.any_append]
  congr 1
  simp [List.getElem?_eq_getElem hi, List.getD_eq_getElem?_getD]
theorem u8_ne0 (c : UInt8) : (((c.toNat : Nat) : Int) != Int.ofNat 0) = (c != 0) := by
  by_cases h0 : c = 0
  · rw [h0]; rfl
  · have h1 : c.toNat ≠ 0 := fun h => h0 (UInt8.toNat_inj.1 h)
    have h2 : (c != 0) = true := by simpa using h0
    rw [h2]
    simp only [bne_iff_ne, ne_eq]
    intro h
    exact h1 (by have h3 : (c.toNat : Int) = 0 := h; omega)
set_option maxHeartbeats 8000000 in
set_option maxRecDepth 100000 in
theorem sturned_ev {l : List Ev} {a : Nat} {at0 : Int} {t : List UInt8} (ha : a < 4294967296) (hE : ∀ e ∈ l, EvIn e) (hat : in64 at0) (ht : t.length = 4) : ∃ fuel, evP cfgL7 fuel 7 [.i .u32 (a : Int), .fsl l.length (evsC l), .i .i64 at0, .agg (ofBytes t)] = some (.b true) := by
  refine ⟨310 + 1, ev_flat rfl rfl (fun _ => rfl) (evFn_W (by kernel_rfl : cfgL7.fn 7 = some m7) ?_)⟩
  unfold m7
  have h1t : (PV.agg (ofBytes t)).cells.all PV.one = true := one_ofBytes t
  have aw := fun st key => s_awake (callE := evFn cfgL7 310) (cfg := cfgL7) rfl st key
  refine Za (fun x => x.env.get 0 = .i .u32 (a : Int) ∧ x.env.get 1 = .fsl l.length (evsC l) ∧ x.env.get 2 = .i .i64 at0 ∧ x.env.get 7 = .ptr 1 0 ∧ x.st.get 1 = some (.cells (ofBytes t) false) ∧ (1 < x.st.cnt)) ?_ ?_
  · simp only [↓Z0, ↓Xp, ↓Xt, Xq, Xc, binP, ofCells, Nat.reduceAdd, Nat.reduceMul, Nat.reduceLT, Nat.reduceEqDiff, reduceIte, Xm, Nat.reduceLeDiff, putArgs, h1t]
    (repeat' (first | exact True.intro | rfl | assumption | omega | apply And.intro | exact St.get_putk _ _ _ | refine ⟨_, rfl, ?_⟩))
  rintro ⟨env, ⟨sto, c⟩⟩ ⟨g0, g1, g2, g7, k1, hc1⟩
  simp only at g0 g1 g2 g7 k1 hc1
  replace k1 : ∀ n, St.get ⟨sto, n⟩ 1 = some (.cells (ofBytes t) false) := fun _ => k1
  by_cases z0 : l.length = 0
  · simp (disch := first | omega | rfl | assumption) only [↓Z0, ↓Xp, ↓Xt, Xq, Xc, binP, ofCells, Nat.reduceAdd, Nat.reduceMul, Nat.reduceLT, Nat.reduceEqDiff, reduceIte, Xm, Nat.reduceLeDiff, Xa, Xn, unP, len_f, len_n, len_r, g0, g1, g2, g7, k1, aw]
    refine ⟨nofun, _, rfl, ?_⟩
    simp only [tupV, ↓Z0, ↓Xp, ↓Xt, Xq, Xc, binP, ofCells, Nat.reduceAdd, Nat.reduceMul, Nat.reduceLT, Nat.reduceEqDiff, reduceIte]
  by_cases z1 : 100 < l.length
  · simp (disch := first | omega | rfl | assumption) only [↓Z0, ↓Xp, ↓Xt, Xq, Xc, binP, ofCells, Nat.reduceAdd, Nat.reduceMul, Nat.reduceLT, Nat.reduceEqDiff, reduceIte, Xm, Nat.reduceLeDiff, Xa, Xn, unP, len_f, len_n, len_r, g0, g1, g2, g7, k1, aw]
    refine ⟨nofun, _, rfl, ?_⟩
    simp only [tupV, ↓Z0, ↓Xp, ↓Xt, Xq, Xc, binP, ofCells, Nat.reduceAdd, Nat.reduceMul, Nat.reduceLT, Nat.reduceEqDiff, reduceIte]
  have hl0 : l ≠ [] := fun e => z0 (by rw [e]; rfl)
  have hd2 : ∀ (st : St) (a : Int), deepL st [.i .i64 a, .fsl l.length (evsC l)] = some [.i .i64 a, .fsl l.length (evsC l)] := fun st a => deepL_flat rfl
  refine Za (fun x => x.env.get 0 = .i .u32 (a : Int) ∧ x.env.get 1 = .fsl l.length (evsC l) ∧ x.env.get 2 = .i .i64 at0 ∧ x.env.get 7 = .ptr 1 0 ∧ x.st.get 1 = some (.cells (ofBytes t) false) ∧ (1 < x.st.cnt)) ?_ ?_
  · simp (disch := first | omega | rfl | assumption) only [↓Z0, ↓Xp, ↓Xt, Xq, Xc, binP, ofCells, Nat.reduceAdd, Nat.reduceMul, Nat.reduceLT, Nat.reduceEqDiff, reduceIte, Xm, Nat.reduceLeDiff, Xa, Xn, g0, g1, g2, g7, k1, len_f]
    (repeat' (first | exact True.intro | rfl | assumption | omega | apply And.intro | exact St.get_putk _ _ _ | refine ⟨_, rfl, ?_⟩))
  clear g0 g1 g2 g7 k1 hc1
  rintro ⟨env, ⟨sto, c⟩⟩ ⟨g0, g1, g2, g7, k1, hc1⟩
  simp only at g0 g1 g2 g7 k1 hc1
  replace k1 : ∀ n, St.get ⟨sto, n⟩ 1 = some (.cells (ofBytes t) false) := fun _ => k1
  have hab := @packB_len a l
  have hread := unpackR_B (n := a) (l := l) (by omega) (by omega) (by omega) hE
  have hturn := fun p ts => @unpackR_turned (denseB a l) p ts
  have hBl : 1 ≤ (denseB a l).length := by rw [denseB_split, List.length_append, amd1_len]; omega
  rw [Z0]
  simp (disch := first | omega | rfl | assumption) only [↓Xp, ↓Xt, Xq, Xc, binP, ofCells, Nat.reduceAdd, Nat.reduceMul, Nat.reduceLT, Nat.reduceEqDiff, reduceIte, Xa, Xn, unP, len_f, len_n, len_r, Xm, Nat.reduceLeDiff, g0, g1, g2, g7, k1]
  refine WV_callT (hd2 _ _) (s_pack rfl (n := a) (inEl_fsl l) hl0 (by omega) (by omega)) (OutV.osl _ _ _) rfl rfl (clO_bytes _) (by rw [len_ofBytes, Nat.mul_one]) (by first | omega | (simp only [Z0L_, Z0M_, Nat.add_assoc, Nat.reduceAdd]; omega) | (simp only; omega)) ?_
  intro w st1 o1 q1 c1 f1
  simp only at c1
  have hPl : (packB a l).length = (denseB a l).length + 4 := sealB_len _
  have hPe : packB a l = sealB (denseB a l) := rfl
  rw [← hPe] at hturn
  generalize packB a l = P at *
  generalize (denseB a l).length = B at *
  obtain ⟨kq, rfl, hkb, hkc, hk1⟩ : ∃ kq, w = .rsl kq 1 0 P.length ∧ st1.get kq = some (.cells (ofBytes P) false) ∧ kq < st1.cnt ∧ kq ≠ 1 := by
    rcases o1 with ⟨_, h0, _⟩ | ⟨k, rfl, h1, _, h3⟩
    · omega
    · exact ⟨k, rfl, h1, h3, by have := q1 k (by simp [keyOf]); omega⟩
  have t1 : ∀ n, St.get ⟨st1.sto, n⟩ 1 = some (.cells (ofBytes t) false) := fun n => by
    have := f1 1 (by omega)
    show st1.get 1 = _
    rw [this]
    exact k1 _
  have tb : ∀ n, St.get ⟨st1.sto, n⟩ kq = some (.cells (ofBytes P) false) := fun _ => hkb
  rw [hPl]
  simp (disch := first | omega | rfl | assumption) only [↓Xp, ↓Xt, Xq, Xc, binP, ofCells, Nat.reduceAdd, Nat.reduceMul, Nat.reduceLT, Nat.reduceEqDiff, reduceIte, Xa, Xn, unP, len_f, len_n, len_r, Xm, Nat.reduceLeDiff, g0, g1, g2, g7, k1, List.nil_append]
  refine Za (fun x => x.env.get 1 = .fsl l.length (evsC l) ∧ x.env.get 2 = .i .i64 at0 ∧ x.env.get 7 = .ptr 1 0 ∧ x.env.get 9 = .rsl kq 1 0 (B + 4) ∧ x.env.get 10 = .i .i64 0 ∧ x.env.get 11 = .i .i64 (((B + 4 : Nat) : Int) - ((4 : Nat) : Int)) ∧ x.st.get 1 = some (.cells (ofBytes t) false) ∧ x.st.get kq = some (.cells (ofBytes P) false) ∧ (1 < x.st.cnt) ∧ (kq < x.st.cnt)) ?_ ?_
  · simp (disch := first | omega | rfl | assumption) only [↓Z0, ↓Xp, ↓Xt, Xq, Xc, binP, ofCells, Nat.reduceAdd, Nat.reduceMul, Nat.reduceLT, Nat.reduceEqDiff, reduceIte, Xm, Nat.reduceLeDiff, Xa, Xn, g0, g1, g2, g7, k1, g0, g1, g2, g7, t1, tb, len_r]
    (repeat' (first | exact True.intro | rfl | assumption | omega | apply And.intro | exact St.get_putk _ _ _ | refine ⟨_, rfl, ?_⟩))
  clear g0 g1 g2 g7 k1 hc1
  rintro ⟨env, ⟨sto, c⟩⟩ ⟨g1, g2, g7, g9, g10, g11, k1, hPP, hc1, hck⟩
  simp only at g1 g2 g7 g9 g10 g11 k1 hPP hc1 hck
  replace k1 : ∀ n, St.get ⟨sto, n⟩ 1 = some (.cells (ofBytes t) false) := fun _ => k1
  replace hPP : ∀ n, St.get ⟨sto, n⟩ kq = some (.cells (ofBytes P) false) := fun _ => hPP
  rw [show (((B + 4 : Nat) : Int) - ((4 : Nat) : Int)) = (B : Int) by omega] at g11
  refine Za (fun x => x.env.get 1 = .fsl l.length (evsC l) ∧ x.env.get 2 = .i .i64 at0 ∧ x.env.get 7 = .ptr 1 0 ∧ x.env.get 9 = .rsl kq 1 0 (B + 4) ∧ x.env.get 10 = .i .i64 0 ∧ x.env.get 11 = .i .i64 (B : Int) ∧ x.st.get 1 = some (.cells (ofBytes t) false) ∧ x.st.get kq = some (.cells (ofBytes P) false) ∧ (1 < x.st.cnt) ∧ (kq < x.st.cnt)) ?_ ?_
  · simp (disch := first | omega | rfl | assumption) only [↓Z0, ↓Xp, ↓Xt, Xq, Xc, binP, ofCells, Nat.reduceAdd, Nat.reduceMul, Nat.reduceLT, Nat.reduceEqDiff, reduceIte, Xm, Nat.reduceLeDiff, Xa, Xn, g1, g2, g7, g9, g10, g11, k1, hPP]
    (repeat' (first | exact True.intro | rfl | assumption | omega | apply And.intro | exact St.get_putk _ _ _ | refine ⟨_, rfl, ?_⟩))
  clear g1 g2 g7 g9 g10 g11 k1 hPP hc1 hck
  rintro ⟨env, ⟨sto, c⟩⟩ ⟨g1, g2, g7, g9, g10, g11, k1, hPP, hc1, hck⟩
  simp only at g1 g2 g7 g9 g10 g11 k1 hPP hc1 hck
  replace k1 : ∀ n, St.get ⟨sto, n⟩ 1 = some (.cells (ofBytes t) false) := fun _ => k1
  replace hPP : ∀ n, St.get ⟨sto, n⟩ kq = some (.cells (ofBytes P) false) := fun _ => hPP
  obtain ⟨p, hp⟩ : ∃ p : Nat, pickI at0 (B : Int) = (p : Int) := by
    have := (@pick_nonneg at0 (B : Int) (by omega)).1
    exact ⟨(pickI at0 (B : Int)).toNat, by omega⟩
  have hpB : p < B := by
    have := (@pick_nonneg at0 (B : Int) (by omega)).2 (by omega)
    omega
  have hpi : ∀ st key, callStep (runPure cfgL7 (evFn cfgL7 310) 30) false st key [.i .i64 at0, .i .i64 (B : Int)] = some (.i .i64 (p : Int), st) := by
    intro st key
    have := k4_pick (callE := evFn cfgL7 310) (cfg := cfgL7) rfl (st := st) (key := key) hat (n := (B : Int)) ⟨by omega, by omega⟩
    rw [hp] at this
    exact this
  refine Za (fun x => x.env.get 1 = .fsl l.length (evsC l) ∧ x.env.get 2 = .i .i64 (p : Int) ∧ x.env.get 7 = .ptr 1 0 ∧ x.env.get 9 = .rsl kq 1 0 (B + 4) ∧ x.env.get 10 = .i .i64 0 ∧ x.env.get 11 = .i .i64 (B : Int) ∧ x.st.get 1 = some (.cells (ofBytes t) false) ∧ x.st.get kq = some (.cells (ofBytes P) false) ∧ (1 < x.st.cnt) ∧ (kq < x.st.cnt)) ?_ ?_
  · simp (disch := first | omega | rfl | assumption) only [↓Z0, ↓Xp, ↓Xt, Xq, Xc, binP, ofCells, Nat.reduceAdd, Nat.reduceMul, Nat.reduceLT, Nat.reduceEqDiff, reduceIte, Xm, Nat.reduceLeDiff, Xa, Xn, g1, g2, g7, g9, g10, g11, k1, hPP, hpi]
    (repeat' (first | exact True.intro | rfl | assumption | omega | apply And.intro | exact St.get_putk _ _ _ | refine ⟨_, rfl, ?_⟩))
  clear g1 g2 g7 g9 g10 g11 k1 hPP hc1 hck
  rintro ⟨env, ⟨sto, c⟩⟩ ⟨g1, g2, g7, g9, g10, g11, k1, hPP, hc1, hck⟩
  simp only at g1 g2 g7 g9 g10 g11 k1 hPP hc1 hck
  replace k1 : ∀ n, St.get ⟨sto, n⟩ 1 = some (.cells (ofBytes t) false) := fun _ => k1
  replace hPP : ∀ n, St.get ⟨sto, n⟩ kq = some (.cells (ofBytes P) false) := fun _ => hPP
  refine Za (fun x => x.env.get 1 = .fsl l.length (evsC l) ∧ x.env.get 2 = .i .i64 (p : Int) ∧ x.env.get 7 = .ptr 1 0 ∧ x.env.get 9 = .rsl kq 1 0 (B + 4) ∧ x.env.get 10 = .i .i64 0 ∧ x.env.get 11 = .i .i64 (B : Int) ∧ x.st.get 1 = some (.cells (ofBytes t) false) ∧ x.st.get kq = some (.cells (ofBytes P) false) ∧ (1 < x.st.cnt) ∧ (kq < x.st.cnt) ∧ x.env.get 12 = .b false) ?_ ?_
  · simp (disch := first | omega | rfl | assumption) only [↓Z0, ↓Xp, ↓Xt, Xq, Xc, binP, ofCells, Nat.reduceAdd, Nat.reduceMul, Nat.reduceLT, Nat.reduceEqDiff, reduceIte, Xm, Nat.reduceLeDiff, Xa, Xn, g1, g2, g7, g9, g10, g11, k1, hPP]
    (repeat' (first | exact True.intro | rfl | assumption | omega | apply And.intro | exact St.get_putk _ _ _ | refine ⟨_, rfl, ?_⟩))
  clear g1 g2 g7 g9 g10 g11 k1 hPP hc1 hck
  rintro ⟨env, ⟨sto, c⟩⟩ ⟨g1, g2, g7, g9, g10, g11, k1, hPP, hc1, hck, g12⟩
  simp only at g1 g2 g7 g9 g10 g11 k1 hPP hc1 hck g12
  replace k1 : ∀ n, St.get ⟨sto, n⟩ 1 = some (.cells (ofBytes t) false) := fun _ => k1
  replace hPP : ∀ n, St.get ⟨sto, n⟩ kq = some (.cells (ofBytes P) false) := fun _ => hPP
  obtain ⟨k, hk⟩ : ∃ k, min 4 (B - p) = k := ⟨_, rfl⟩
  have hkt : (t.take k).length = k := by rw [List.length_take]; omega
  obtain ⟨hz1, hz2⟩ := hturn p (t.take k) (by omega) (by omega)
  obtain ⟨Fin, hFin⟩ : ∃ G, xorAt P p (t.take k) = G := ⟨_, rfl⟩
  have hFinL : Fin.length = B + 4 := by rw [← hFin, xorAt_len]; exact hPl
  rw [hFin] at hz1 hz2
  clear hturn hp hpi
  refine Za (fun x => x.env.get 1 = .fsl l.length (evsC l) ∧ x.env.get 9 = .rsl kq 1 0 (B + 4) ∧ x.env.get 12 = .b ((t.take k).any (· != 0)) ∧ x.st.get kq = some (.cells (ofBytes Fin) false) ∧ kq < x.st.cnt) ?_ ?_
  · rw [Z0]
    simp (disch := first | omega | rfl | assumption) only [↓Xp, ↓Xt, Xq, Xc, binP, ofCells, Nat.reduceAdd, Nat.reduceMul, Nat.reduceLT, Nat.reduceEqDiff, reduceIte, Xa, Xn, g1, g2, g7, g9, g10, g11, k1, hPP, g12]
    refine Z9 (k := k - 0) (fun d x => ∃ (i : Nat) (G : List UInt8), i ≤ k ∧ d = k - i ∧ G.length = B + 4 ∧ xorAt G (p + i) ((t.take k).drop i) = Fin ∧ x.env.get 1 = .fsl l.length (evsC l) ∧ x.env.get 2 = .i .i64 (p : Int) ∧ x.env.get 7 = .ptr 1 0 ∧ x.env.get 9 = .rsl kq 1 0 (B + 4) ∧ x.env.get 11 = .i .i64 (B : Int) ∧ x.env.get 12 = .b ((t.take i).any (· != 0)) ∧ x.env.get 13 = .i .i64 (i : Int) ∧ x.st.get 1 = some (.cells (ofBytes t) false) ∧ x.st.get kq = some (.cells (ofBytes G) false) ∧ kq < x.st.cnt) ?_ ?_ (by omega)
    · skip
      clear g1 g2 g7 g9 g10 g11 k1 hPP hc1 hck g12
      rintro d ⟨env, ⟨sto, c⟩⟩ ⟨i, G, hi, rfl, hGl, hG, g1, g2, g7, g9, g11, g12, g13, k1, kb1, hkc⟩
      simp only at g1 g2 g7 g9 g11 g12 g13 k1 kb1 hkc
      by_cases hik : i < k
      · have hld : ∀ n, loadP ⟨sto, n⟩ 1 (.ptr kq (p + i)) = some [.i .u8 ((G.getD (p + i) 0).toNat : Int)] := fun n => by
          have := load_byte (st := ⟨sto, n⟩) kb1 (i := p + i) (by omega)
          rwa [Nat.zero_add, Nat.mul_one] at this
        have hld2 : ∀ n, loadP ⟨sto, n⟩ 1 (.ptr 1 i) = some [.i .u8 ((t.getD i 0).toNat : Int)] := fun n => by
          have := load_byte (st := ⟨sto, n⟩) k1 (i := i) (by omega)
          rwa [Nat.zero_add, Nat.mul_one] at this
        have hxor := ibits_xor8 (G.getD (p + i) 0) (t.getD i 0)
        have hsto : ∀ n, storeP ⟨sto, n⟩ 1 (.ptr kq (p + i)) (.i .u8 ((G.getD (p + i) 0 ^^^ t.getD i 0).toNat : Int)) = some ((⟨sto, n⟩ : St).put kq (some (.cells (ofBytes (G.set (p + i) (G.getD (p + i) 0 ^^^ t.getD i 0))) false))) := fun n => by
          have := store_byte (st := ⟨sto, n⟩) kb1 (i := p + i) (by omega) (G.getD (p + i) 0 ^^^ t.getD i 0)
          rwa [Nat.zero_add, Nat.mul_one] at this
        have hdrop : (t.take k).drop i = t.getD i 0 :: (t.take k).drop (i + 1) := by
          rw [drop_cons (by rw [hkt]; exact hik)]
          congr 1
          simp [List.getD_eq_getElem?_getD, List.getElem?_take, hik]
        rw [hdrop] at hG
        have hG' : xorAt (G.set (p + i) (G.getD (p + i) 0 ^^^ t.getD i 0)) (p + (i + 1)) ((t.take k).drop (i + 1)) = Fin := hG
        have hany := any_take_succ (t := t) (i := i) (by omega)
        have hne : ((((t.getD i 0).toNat : Nat) : Int) != ((0 : Nat) : Int)) = (t.getD i 0 != 0) := u8_ne0 (t.getD i 0)
        generalize hX : G.set (p + i) (G.getD (p + i) 0 ^^^ t.getD i 0) = G2 at *
        have hG2 : G2.length = B + 4 := by rw [← hX, List.length_set]; exact hGl
        have q1 : ∀ m n, St.get ⟨((⟨sto, m⟩ : St).put kq (some (.cells (ofBytes G2) false))).sto, n⟩ 1 = some (.cells (ofBytes t) false) := by
          intro m n
          show ((⟨sto, m⟩ : St).put kq _).get 1 = _
          rw [St.get_put_ne (by omega)]; exact k1
        have q2 : ∀ m n, St.get ⟨((⟨sto, m⟩ : St).put kq (some (.cells (ofBytes G2) false))).sto, n⟩ kq = some (.cells (ofBytes G2) false) := by
          intro m n
          show ((⟨sto, m⟩ : St).put kq _).get kq = _
          rw [St.get_putk]
        have hld3 : ∀ m n, loadP ⟨((⟨sto, m⟩ : St).put kq (some (.cells (ofBytes G2) false))).sto, n⟩ 1 (.ptr 1 i) = some [.i .u8 ((t.getD i 0).toNat : Int)] := fun m n => by
          have := load_byte (q1 m n) (i := i) (by omega)
          rwa [Nat.zero_add, Nat.mul_one] at this
        have hc2 : ∀ m, ((⟨sto, m⟩ : St).put kq (some (.cells (ofBytes G2) false))).cnt = m := fun _ => rfl
        cases hch : (t.take i).any (· != 0) with
        | true =>
          rw [hch] at g12
          rw [hch, Bool.true_or] at hany
          simp (disch := first | omega | rfl | assumption) only [↓Z0, ↓Xp, ↓Xt, Xq, Xc, binP, ofCells, Nat.reduceAdd, Nat.reduceMul, Nat.reduceLT, Nat.reduceEqDiff, reduceIte, Xl, Nat.reduceLeDiff, Xa, Xn, g1, g2, g7, g9, g11, g12, g13, hld, hld2, hxor, hsto, hc2]
          refine ⟨k - (i + 1), by omega, i + 1, G2, ?_⟩
          simp only [q1, q2, hany]
          (repeat' (first | exact True.intro | rfl | assumption | omega | apply And.intro))
        | false =>
          rw [hch] at g12
          rw [hch, Bool.false_or] at hany
          simp (disch := first | omega | rfl | assumption) only [↓Z0, ↓Xp, ↓Xt, Xq, Xc, binP, ofCells, Nat.reduceAdd, Nat.reduceMul, Nat.reduceLT, Nat.reduceEqDiff, reduceIte, Xl, Nat.reduceLeDiff, Xa, Xn, g1, g2, g7, g9, g11, g12, g13, hld, hld2, hxor, hsto, hld3, hne, hc2]
          refine ⟨k - (i + 1), by omega, i + 1, G2, ?_⟩
          simp only [q1, q2, hany]
          (repeat' (first | exact True.intro | rfl | assumption | omega | apply And.intro))
      · have hik' : i = k := by omega
        have hGF : G = Fin := by
          rw [← hG, hik', List.drop_of_length_le (by omega)]; rfl
        subst hGF
        rw [hik'] at g12 g13
        by_cases hk4 : k < 4
        · have hpk : ¬ p + k < B := by omega
          simp (disch := first | omega | rfl | assumption) only [↓Z0, ↓Xp, ↓Xt, Xq, Xc, binP, ofCells, Nat.reduceAdd, Nat.reduceMul, Nat.reduceLT, Nat.reduceEqDiff, reduceIte, Xl, Nat.reduceLeDiff, Xa, Xn, g1, g2, g7, g9, g11, g12, g13]
          (repeat' (first | exact True.intro | rfl | assumption | omega | apply And.intro))
        · simp (disch := first | omega | rfl | assumption) only [↓Z0, ↓Xp, ↓Xt, Xq, Xc, binP, ofCells, Nat.reduceAdd, Nat.reduceMul, Nat.reduceLT, Nat.reduceEqDiff, reduceIte, Xl, Nat.reduceLeDiff, Xa, Xn, g1, g2, g7, g9, g11, g12, g13]
          (repeat' (first | exact True.intro | rfl | assumption | omega | apply And.intro))
    · refine ⟨0, P, Nat.zero_le _, rfl, hPl, hFin, ?_⟩
      simp only [Env.get_put, Nat.reduceEqDiff, if_false, if_true, g1, g2, g7, g9, g10, g11, k1, hPP, g12, List.take_zero, List.any_nil]
      (repeat' (first | exact True.intro | rfl | assumption | omega | apply And.intro))
  clear g1 g2 g7 g9 g10 g11 k1 hPP hc1 hck g12
  rintro ⟨env, ⟨sto, c⟩⟩ ⟨g1, g9, g12, kb1, hkc⟩
  simp only at g1 g9 g12 kb1 hkc
  have oF : ∀ n, c ≤ n → Own ⟨sto, n⟩ 1 (.rsl kq 1 0 (B + 4)) (B + 4) (ofBytes Fin) := fun n hn => .inr ⟨kq, rfl, kb1, by rw [len_ofBytes, hFinL, Nat.mul_one], by simp only; omega⟩
  cases hch : (t.take k).any (· != 0) with
  | true =>
    rw [hch] at g12
    have hne : ∃ u ∈ t.take k, u ≠ 0 := by
      rw [List.any_eq_true] at hch
      obtain ⟨u, h1, h2⟩ := hch
      exact ⟨u, h1, by simpa using h2⟩
    have hr := fun n (hn : c ≤ n) key => s_unpack_no (callE := evFn cfgL7 310) (cfg := cfgL7) rfl (st := ⟨sto, n⟩) key (deepL_one (oF n hn).deepV) (oF n hn).inV (by omega) (hz2 hne)
    simp (disch := first | omega | rfl | assumption) only [↓Z0, ↓Xp, ↓Xt, Xq, Xc, binP, ofCells, Nat.reduceAdd, Nat.reduceMul, Nat.reduceLT, Nat.reduceEqDiff, reduceIte, Xm, Nat.reduceLeDiff, Xa, Xn, unP, len_f, len_n, len_r, g1, g9, g12, hr, aw]
    refine ⟨nofun, _, rfl, ?_⟩
    simp only [tupV, ↓Z0, ↓Xp, ↓Xt, Xq, Xc, binP, ofCells, Nat.reduceAdd, Nat.reduceMul, Nat.reduceLT, Nat.reduceEqDiff, reduceIte]
  | false =>
    rw [hch] at g12
    have hz : ∀ u ∈ t.take k, u = 0 := by
      intro u hu
      rw [List.any_eq_false] at hch
      simpa using hch u hu
    rw [hz1 hz] at oF
    rw [Z0]
    simp (disch := first | omega | rfl | assumption) only [↓Xp, ↓Xt, Xq, Xc, binP, ofCells, Nat.reduceAdd, Nat.reduceMul, Nat.reduceLT, Nat.reduceEqDiff, reduceIte, Xa, Xn, unP, len_f, len_n, len_r, Xm, Nat.reduceLeDiff, g1, g9, g12]
    refine WV_callT (deepL_one (oF _ (by omega)).deepV) (s_unpack_ok rfl (oF c (by omega)).inV (by omega) hread) (OutV.osl _ _ _) rfl rfl (clO_evs _) (evsC_len _) (by first | omega | (simp only [Z0L_, Z0M_, Nat.add_assoc, Nat.reduceAdd]; omega) | (simp only; omega)) ?_
    intro w2 st2 o2 _ c2 f2
    simp only at c2
    have sse := fun N (hN : st2.cnt ≤ N) key => k4_samee (callE := evFn cfgL7 310) (cfg := cfgL7) rfl (st := ⟨st2.sto, N⟩) (key := key) (deepL_two ((o2.cnt hN).deepE rfl).1 (deep_ev0 (inEl_fsl l))) ((o2.deepE rfl).2) (inEl_fsl l) (by omega)
    simp (disch := first | omega | rfl | assumption) only [↓Z0, ↓Xp, ↓Xt, Xq, Xc, binP, ofCells, Nat.reduceAdd, Nat.reduceMul, Nat.reduceLT, Nat.reduceEqDiff, reduceIte, Xm, Nat.reduceLeDiff, Xa, Xn, unP, len_f, len_n, len_r, List.cons_append, List.nil_append, g1, g12, sse, aw, decide_true]
    refine ⟨nofun, _, rfl, ?_⟩
    simp only [tupV, ↓Z0, ↓Xp, ↓Xt, Xq, Xc, binP, ofCells, Nat.reduceAdd, Nat.reduceMul, Nat.reduceLT, Nat.reduceEqDiff, reduceIte]
theorem sturned_law (a : Int) (ha : (Lit.int .u32 a).wf = true) (n : Nat) (ps : List PV) (hl : ps.length = n * evSh.width) (hn : n ≤ reachBytes) (h : ∀ j, j < n → evSh.Is ((ps.drop (j * evSh.width)).take evSh.width)) (at0 : Int) (hat : (Lit.int .i64 at0).wf = true) (ts : List PV) (ht : (Sh.cons (.i .u8) (.cons (.i .u8) (.cons (.i .u8) (.cons (.i .u8) .nil)))).Is ts) : ∃ fuel, evP cfgL7 fuel 7 [.i .u32 a, .fsl n ps, .i .i64 at0, .agg ts] = some (.b true) := by
  obtain ⟨l, rfl, rfl, hE⟩ := is_evs hl h
  have h1 := u32_wf ha
  obtain ⟨a, rfl⟩ : ∃ k : Nat, a = k := ⟨a.toNat, by omega⟩
  have ht4 : ∃ t : List UInt8, ts = ofBytes t ∧ t.length = 4 := by
    obtain ⟨⟨a, h1, w1⟩, ⟨b, h2, w2⟩, ⟨c, h3, w3⟩, ⟨d, h4, w4⟩, h5⟩ := ht
    simp only [Sh.width] at h1 h2 h3 h4 h5
    have hl4 : ts.length = 4 := by
      have q4 := congrArg List.length h4
      have q5 := congrArg List.length h5
      simp only [List.length_take, List.length_drop, List.length_singleton, List.length_nil] at q4 q5
      omega
    refine is_bytes (n := 4) (by omega) fun j hj => ?_
    have hj' : j = 0 ∨ j = 1 ∨ j = 2 ∨ j = 3 := by omega
    rcases hj' with rfl | rfl | rfl | rfl
    · exact ⟨a, h1, w1⟩
    · exact ⟨b, h2, w2⟩
    · exact ⟨c, by simpa [List.drop_drop] using h3, w3⟩
    · exact ⟨d, by simpa [List.drop_drop] using h4, w4⟩
  obtain ⟨t, rfl, ht'⟩ := ht4
  exact sturned_ev (by omega) hE (i64_wf hat) ht'
end Go.Pe
