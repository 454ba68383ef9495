/-
  Events: two unlike ones have unlike bytes. No condition.
-/
import Derived.Test.YtadblicfhhllgaaEvtT
import Derived.Test.YtadblicfhhllgaaEvtA0
set_option linter.unusedVariables false
set_option linter.unusedSimpArgs false
namespace Go.Pe
open Go Go.Am Go.RowKit

set_option maxHeartbeats 8000000 in
set_option maxRecDepth 100000 in
theorem apart_ev (a0 a1 a2 a3 a4 b0 b1 b2 b3 b4 f0 f1 f2 f3 f4 : Int) (hb : 0 ≤ b1 ∧ b1 < 256) (hf : 0 ≤ f1 ∧ f1 < 256) (h0 : in64 b0) (h2 : in64 b2) (h3 : in64 b3) (h4 : in64 b4) (g0 : in64 f0) (g2 : in64 f2) (g3 : in64 f3) (g4 : in64 f4) : ∃ fuel, evP cfgE4 fuel 7 [.agg [.i .i64 a0, .i .u8 a1, .i .i64 a2, .i .i64 a3, .i .i64 a4], .agg [.i .i64 b0, .i .u8 b1, .i .i64 b2, .i .i64 b3, .i .i64 b4], .agg [.i .i64 f0, .i .u8 f1, .i .i64 f2, .i .i64 f3, .i .i64 f4]] = some (.b true) := by
  refine ⟨0 + 1, ev_flat rfl rfl (fun _ => rfl) (evFn_W (by kernel_rfl : cfgE4.fn 7 = some m7) ?_)⟩
  unfold m7
  have p1 := put_nil (a0 := a0) (a1 := a1) (a2 := a2) (a3 := a3) (a4 := a4) (b0 := b0) (b2 := b2) (b3 := b3) (b4 := b4) hb.1 hb.2
  have p2 := put_nil (a0 := a0) (a1 := a1) (a2 := a2) (a3 := a3) (a4 := a4) (b0 := f0) (b2 := f2) (b3 := f3) (b4 := f4) hf.1 hf.2
  have p3 := put_nil (a0 := b0) (a1 := b1) (a2 := b2) (a3 := b3) (a4 := b4) (b0 := b0) (b2 := b2) (b3 := b3) (b4 := b4) hb.1 hb.2
  rw [← runPure_ext (callE := evFn cfgE4 0) hxE4_pu] at p1 p2 p3
  have l1 := put_len b1.toNat.toUInt8 a0 a2 a3 a4 b0 b2 b3 b4
  have l2 := put_len f1.toNat.toUInt8 a0 a2 a3 a4 f0 f2 f3 f4
  have l3 := put_self b1.toNat.toUInt8 b0 b2 b3 b4
  have key := put_take (c := b1.toNat.toUInt8) (c' := f1.toNat.toUInt8) (a0 := a0) (a2 := a2) (a3 := a3) (a4 := a4) h0 h2 h3 h4 g0 g2 g3 g4 rfl rfl
  rw [← u8_beq hb hf] at key
  generalize putL [] b1.toNat.toUInt8 a0 a2 a3 a4 b0 b2 b3 b4 = L at *
  generalize putL [] f1.toNat.toUInt8 a0 a2 a3 a4 f0 f2 f3 f4 = M at *
  generalize putL [] b1.toNat.toUInt8 b0 b2 b3 b4 b0 b2 b3 b4 = N at *
  obtain ⟨n, hn⟩ : ∃ n, min L.length M.length = n := ⟨_, rfl⟩
  rw [hn] at key
  have hnb : 5 ≤ n ∧ n ≤ L.length ∧ n ≤ M.length := by omega
  have hmin : minP (.i .i64 (L.length : Int)) [.i .i64 (M.length : Int)] = some (.i .i64 (n : Int)) := by
    show some (PV.i .i64 _) = _
    congr 2
    split <;> omega
  have b1' : bound (some (.i .i64 (n : Int))) L.length L.length = some n := bound_ok ⟨by omega, by omega⟩
  have b2' : bound (some (.i .i64 (n : Int))) M.length M.length = some n := bound_ok ⟨by omega, by omega⟩
  have s1 : runPure cfgE4 (evFn cfgE4 0) 12 [.fsl n (ofBytes (L.take n)), .fsl n (ofBytes (M.take n))] = some (.b (L.take n == M.take n)) := by
    rw [runPure_ext hxE4_sa]
    have e1 : inL (.fsl n (ofBytes (L.take n))) = some (L.take n) := by
      have := in_fsl (L.take n)
      rwa [List.length_take, Nat.min_eq_left (by omega)] at this
    have e2 : inL (.fsl n (ofBytes (M.take n))) = some (M.take n) := by
      have := in_fsl (M.take n)
      rwa [List.length_take, Nat.min_eq_left (by omega)] at this
    unfold gSame
    simp only [e1, e2]
  rw [key] at s1
  have w1 : runPure cfgE4 (evFn cfgE4 0) 17 [] = some (.b true) := by rw [runPure_ext hxE4_aw]; rfl
  have w2 : ∀ (st : St) (key : Nat), callStep (runPure cfgE4 (evFn cfgE4 0) 17) false st key [] = some (.b true, st) := fun st key => callStep_flat rfl w1 rfl
  have d0 : ∀ st : St, deepL st [] = some [] := fun _ => rfl
  have dn : ∀ (st : St) (a0 a1 a2 a3 a4 b0 b1 b2 b3 b4 : Int), deepL st [.nsl, .agg [.i .i64 a0, .i .u8 a1, .i .i64 a2, .i .i64 a3, .i .i64 a4], .agg [.i .i64 b0, .i .u8 b1, .i .i64 b2, .i .i64 b3, .i .i64 b4]] = some [.nsl, .agg [.i .i64 a0, .i .u8 a1, .i .i64 a2, .i .i64 a3, .i .i64 a4], .agg [.i .i64 b0, .i .u8 b1, .i .i64 b2, .i .i64 b3, .i .i64 b4]] := fun _ _ _ _ _ _ _ _ _ _ _ => rfl
  have cb : ∀ x, PV.closedB (.b x) = true := fun _ => rfl
  have rb : ∀ (st : St) (key : Nat) (x : Bool), recvRes st key (.b x) = some (.b x, st) := fun _ _ _ => rfl
  have ro : ∀ (st : St) (key n : Nat) (cs : List PV), recvRes st key (.osl 1 n cs) = some (.rsl key 1 0 n, st.put key (some (.cells cs false))) := fun _ _ _ _ => rfl
  have q1 : ¬ ((n : Int) < Int.ofNat 5) := by show ¬ ((n : Int) < 5); omega
  have q2 : ¬ ((L.length : Int) > Int.ofNat 41) := by show ¬ ((L.length : Int) > 41); omega
  have q3 : ¬ ((M.length : Int) > Int.ofNat 41) := by show ¬ ((M.length : Int) > 41); omega
  have q4 : ((N.length : Int) != Int.ofNat 5) = false := by rw [l3]; rfl
  have qz : (0 < n ∨ 0 = 0) := .inr rfl
  have hnL : n ≤ L.length := hnb.2.1
  have hnM : n ≤ M.length := hnb.2.2
  have hs1 : ∀ k, sliceP 1 none (some (.i .i64 (n : Int))) (.rsl k 1 0 L.length) = some (.rsl k 1 0 n) := by
    intro k
    unfold sliceP
    simp only [b1', Z0B_]
    rw [if_pos ⟨trivial, .inr trivial⟩]
    simp
  have hs2 : ∀ k, sliceP 1 none (some (.i .i64 (n : Int))) (.rsl k 1 0 M.length) = some (.rsl k 1 0 n) := by
    intro k
    unfold sliceP
    simp only [b2', Z0B_]
    rw [if_pos ⟨trivial, .inr trivial⟩]
    simp
  have c3 : ∀ (st : St) (key : Nat), callStep (runPure cfgE4 (evFn cfgE4 0) 10) false st key [.nsl, .agg [.i .i64 b0, .i .u8 b1, .i .i64 b2, .i .i64 b3, .i .i64 b4], .agg [.i .i64 b0, .i .u8 b1, .i .i64 b2, .i .i64 b3, .i .i64 b4]] = some (.rsl key 1 0 N.length, st.put key (some (.cells (ofBytes N) false))) := by
    intro st key
    unfold callStep
    simp only [dn, p3, closed_osl, if_true, ro]
  have dt : ∀ (st : St) (k1 k2 : Nat), st.get k1 = some (.cells (ofBytes L) false) → st.get k2 = some (.cells (ofBytes M) false) → deepL st [.rsl k1 1 0 n, .rsl k2 1 0 n] = some [.fsl n (ofBytes (L.take n)), .fsl n (ofBytes (M.take n))] := fun st k1 k2 h1 h2 => deep_two' h1 h2 hnL hnM
  refine Za (fun x => x.env.get 3 = .ptr 1 0 ∧ x.env.get 4 = .ptr 9 0 ∧ x.env.get 5 = .ptr 17 0 ∧ x.st.get 1 = some (.cells [.i .i64 a0, .i .u8 a1, .i .i64 a2, .i .i64 a3, .i .i64 a4] false) ∧ x.st.get 9 = some (.cells [.i .i64 b0, .i .u8 b1, .i .i64 b2, .i .i64 b3, .i .i64 b4] false) ∧ x.st.get 17 = some (.cells [.i .i64 f0, .i .u8 f1, .i .i64 f2, .i .i64 f3, .i .i64 f4] false) ∧ x.st.cnt = 33) ?_ ?_
  · simp only [putArgs, ↓Z0, ↓Xp, ↓Xt, Xq, Xc, binP, ofCells, Nat.reduceAdd, Nat.reduceMul, Nat.reduceLT, Nat.reduceEqDiff, reduceIte, Xm, Nat.reduceLeDiff]
    (repeat' (first | exact True.intro | rfl | assumption | omega | apply And.intro))
  rintro ⟨env, st1⟩ ⟨e3, e4, e5, k1, k9, k17, hc⟩
  simp only at e3 e4 e5 k1 k9 k17 hc
  obtain ⟨sto, c⟩ := st1
  simp only at hc
  subst hc
  refine Za (fun x => x.env.get 4 = .ptr 9 0 ∧ x.env.get 5 = .ptr 17 0 ∧ x.env.get 7 = .rsl 49 1 0 L.length ∧ x.env.get 8 = .rsl 73 1 0 M.length ∧ x.st.get 9 = some (.cells [.i .i64 b0, .i .u8 b1, .i .i64 b2, .i .i64 b3, .i .i64 b4] false) ∧ x.st.get 17 = some (.cells [.i .i64 f0, .i .u8 f1, .i .i64 f2, .i .i64 f3, .i .i64 f4] false) ∧ x.st.get 49 = some (.cells (ofBytes L) false) ∧ x.st.get 73 = some (.cells (ofBytes M) false) ∧ x.st.cnt = 97) ?_ ?_
  · have k1' : ∀ n, St.get ⟨sto, n⟩ 1 = some (.cells [.i .i64 a0, .i .u8 a1, .i .i64 a2, .i .i64 a3, .i .i64 a4] false) := fun _ => k1
    have k9' : ∀ n, St.get ⟨sto, n⟩ 9 = some (.cells [.i .i64 b0, .i .u8 b1, .i .i64 b2, .i .i64 b3, .i .i64 b4] false) := fun _ => k9
    have k17' : ∀ n, St.get ⟨sto, n⟩ 17 = some (.cells [.i .i64 f0, .i .u8 f1, .i .i64 f2, .i .i64 f3, .i .i64 f4] false) := fun _ => k17
    simp only [↓Z0, ↓Xp, ↓Xt, Xq, Xc, binP, ofCells, Nat.reduceAdd, Nat.reduceMul, Nat.reduceLT, Nat.reduceEqDiff, reduceIte, Xm, Nat.reduceLeDiff, e3, e4, e5, k1', k9', k17', dn, p1, p2, closed_osl, ro]
    (repeat' (first | exact True.intro | rfl | assumption | omega | apply And.intro))
  clear k1 k9 k17 e3 e4 e5
  rintro ⟨env, st1⟩ ⟨e4, e5, e7, e8, k9, k17, k49, k73, hc⟩
  simp only at e4 e5 e7 e8 k9 k17 k49 k73 hc
  obtain ⟨sto, c⟩ := st1
  simp only at hc
  subst hc
  have k9' : ∀ n, St.get ⟨sto, n⟩ 9 = some (.cells [.i .i64 b0, .i .u8 b1, .i .i64 b2, .i .i64 b3, .i .i64 b4] false) := fun _ => k9
  have k17' : ∀ n, St.get ⟨sto, n⟩ 17 = some (.cells [.i .i64 f0, .i .u8 f1, .i .i64 f2, .i .i64 f3, .i .i64 f4] false) := fun _ => k17
  have k49' : ∀ n, St.get ⟨sto, n⟩ 49 = some (.cells (ofBytes L) false) := fun _ => k49
  have k73' : ∀ n, St.get ⟨sto, n⟩ 73 = some (.cells (ofBytes M) false) := fun _ => k73
  simp only [↓Z0, ↓Xp, ↓Xt, Xq, Xc, binP, ofCells, Nat.reduceAdd, Nat.reduceMul, Nat.reduceLT, Nat.reduceEqDiff, reduceIte, Xm, Nat.reduceLeDiff, e4, e5, e7, e8, k9', k17', k49', k73', lenP, hmin, q1, q2, q3, q4, c3, hs1, hs2, dt, s1, w1, d0, cb, rb, eq5_bool, Bool.bne_false, eqbP, beq_self_eq_true]
  refine ⟨nofun, _, rfl, ?_⟩
  simp only [tupV, ↓Z0, ↓Xp, ↓Xt, Xq, Xc, binP, ofCells, Nat.reduceAdd, Nat.reduceMul, Nat.reduceLT, Nat.reduceEqDiff, reduceIte]
theorem apart_law (a0 a1 a2 a3 a4 : Int) (_ : (Lit.int .i64 a0).wf = true) (_ : (Lit.int .u8 a1).wf = true) (_ : (Lit.int .i64 a2).wf = true) (_ : (Lit.int .i64 a3).wf = true) (_ : (Lit.int .i64 a4).wf = true) (b0 b1 b2 b3 b4 : Int) (p0 : (Lit.int .i64 b0).wf = true) (p1 : (Lit.int .u8 b1).wf = true) (p2 : (Lit.int .i64 b2).wf = true) (p3 : (Lit.int .i64 b3).wf = true) (p4 : (Lit.int .i64 b4).wf = true) (f0 f1 f2 f3 f4 : Int) (q0 : (Lit.int .i64 f0).wf = true) (q1 : (Lit.int .u8 f1).wf = true) (q2 : (Lit.int .i64 f2).wf = true) (q3 : (Lit.int .i64 f3).wf = true) (q4 : (Lit.int .i64 f4).wf = true) : ∃ fuel, evP cfgE4 fuel 7 [.agg [.i .i64 a0, .i .u8 a1, .i .i64 a2, .i .i64 a3, .i .i64 a4], .agg [.i .i64 b0, .i .u8 b1, .i .i64 b2, .i .i64 b3, .i .i64 b4], .agg [.i .i64 f0, .i .u8 f1, .i .i64 f2, .i .i64 f3, .i .i64 f4]] = some (.b true) :=
  apart_ev a0 a1 a2 a3 a4 b0 b1 b2 b3 b4 f0 f1 f2 f3 f4 (u8_wf p1) (u8_wf q1) (i64_wf p0) (i64_wf p2) (i64_wf p3) (i64_wf p4) (i64_wf q0) (i64_wf q2) (i64_wf q3) (i64_wf q4)
end Go.Pe
