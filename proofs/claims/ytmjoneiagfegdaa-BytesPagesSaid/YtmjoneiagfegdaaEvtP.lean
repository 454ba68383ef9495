/-
  bytes.Uint among objects; folded, Int. No condition.
-/
import Derived.Test.YtmjoneiagfegdaaPeTbl
import Derived.Test.YtmjoneiagfegdaaPe5
import Derived.Test.YtmjoneiagfegdaaBytesM
import Derived.Laws.BitsAllLaws
import Derived.Lib.Zigzag
set_option linter.unusedVariables false
set_option linter.unusedSimpArgs false
namespace Go.Pe
open Go Go.Am Go.RowKit

theorem ibits_and64 (a b : Nat) (ha : a < 18446744073709551616) (hb : b < 18446744073709551616) : ibits .and .u64 (a : Int) (b : Int) = some (.i .u64 ((a &&& b : Nat) : Int)) := by
  rw [← u64_and_nat a b ha hb]; rfl
theorem ibits_xor64 (a b : Nat) (ha : a < 18446744073709551616) (hb : b < 18446744073709551616) : ibits .xor .u64 (a : Int) (b : Int) = some (.i .u64 ((a ^^^ b : Nat) : Int)) := by
  rw [← u64_xor_nat a b ha hb]; rfl
theorem ibits_or8 (a b : Nat) (ha : a < 256) (hb : b < 256) : ibits .or .u8 (a : Int) (b : Int) = some (.i .u8 ((a ||| b : Nat) : Int)) := by
  rw [← u8_or_nat a b ha hb]; rfl
theorem and127P (m : Nat) (h : m < 18446744073709551616) : ibits .and .u64 (m : Int) (Int.ofNat 127) = some (.i .u64 ((m % 128 : Nat) : Int)) := by
  have := ibits_and64 m 127 h (by decide)
  rw [nat_mask7] at this
  exact this
theorem or128P (b : Nat) (h : b < 128) : ibits .or .u8 (b : Int) (Int.ofNat 128) = some (.i .u8 ((b + 128 : Nat) : Int)) := by
  have h1 := ibits_or8 b 128 (by omega) (by decide)
  have h2 : b ||| 128 = b + 128 := by
    have := Nat.two_pow_add_eq_or_of_lt (i := 7) (b := b) (by omega) 1
    rw [show (2 : Nat) ^ 7 * 1 = 128 by decide] at this
    rw [Nat.or_comm, ← this, Nat.add_comm]
  rw [h2] at h1
  exact h1
def OutOK (st : St) (v : PV) (l : List UInt8) : Prop := (v = .nsl ∧ l = []) ∨ ∃ k, v = .rsl k 1 0 l.length ∧ st.get k = some (.cells (ofBytes l) false) ∧ k < st.cnt
theorem app_out {st : St} {v : PV} {l news : List UInt8} (h : OutOK st v l) {key : Nat} (hn : news ≠ []) (hl : l.length + news.length ≤ maxBytes) :
    ∃ st', appendP st key 1 1 news.length (ofBytes news) v = some (.rsl key 1 0 (l.length + news.length), st') ∧ st'.get key = some (.cells (ofBytes (l ++ news)) false) ∧ st'.cnt = st.cnt ∧ ∀ j, j ≠ key → (∀ a b c, v ≠ .rsl j a b c) → st'.get j = st.get j := by
  have hnl : news.length ≠ 0 := fun q => hn (List.length_eq_zero_iff.1 q)
  rcases h with ⟨rfl, rfl⟩ | ⟨k, rfl, hk, _⟩
  · refine ⟨st.put key (some (.cells (ofBytes news) false)), ?_, ?_, rfl, fun j hj _ => St.get_put_ne (fun e => hj e.symm)⟩
    · unfold appendP
      rw [if_neg hnl, if_pos (by simpa using hl)]
      simp
    · rw [St.get_putk]; rfl
  · refine ⟨(st.put k none).put key (some (.cells (ofBytes (l ++ news)) false)), ?_, St.get_putk _ _ _, rfl, fun j hj hv => ?_⟩
    · unfold appendP
      simp only [hk, len_ofBytes, append_ofBytes]
      rw [if_pos ⟨trivial, trivial, by omega, by omega⟩]
    · rw [St.get_put_ne (fun e => hj e.symm), St.get_put_ne (fun e => hv 1 0 l.length (by rw [e]))]
theorem OutOK.mono {st st' : St} {v : PV} {l : List UInt8} (h : OutOK st v l) (hg : ∀ k, k < st.cnt → st'.get k = st.get k) (hc : st.cnt ≤ st'.cnt) : OutOK st' v l := by
  rcases h with h | ⟨k, h1, h2, h3⟩
  · exact .inl h
  · exact .inr ⟨k, h1, by rw [hg k h3]; exact h2, by omega⟩
theorem zeros10 : List.replicate 10 (PV.i .u8 (.ofNat 0)) = ofBytes ([] ++ List.replicate (10 - 0) 0) := by
  simp [ofBytes]
set_option maxHeartbeats 4000000 in
set_option maxRecDepth 100000 in
theorem uint_ev {cfg : Cfg} (hf : cfg.fn 11 = some m11) {fuel : Nat} (hfu : 12 ≤ fuel) {st : St} {v : PV} {l : List UInt8} (hv : OutOK st v l) {N : Nat} (hN : N < 18446744073709551616) (hl : l.length + 10 ≤ maxBytes) :
    ∃ r st', evFn cfg (fuel + 1) 11 [v, .i .u64 N] st = some (r, st') ∧ ∃ q, r = .rsl q 1 0 (l ++ varint N).length ∧ st'.get q = some (.cells (ofBytes (l ++ varint N)) false) := by
  refine evFn_W hf ?_
  unfold m11
  have hk0 : ∀ k : Nat, k < st.cnt → ∀ j : Nat, ¬ (st.cnt + j = k) := fun k hk j => by omega
  simp only [putArgs, ↓Z0, ↓Xp, ↓Xt, Xq, Xc, binP, ofCells, Nat.reduceAdd, Nat.reduceMul, Nat.reduceLT, Nat.reduceEqDiff, reduceIte, Xm, Nat.reduceLeDiff]
  refine Z9 (k := 10 - 0) (fun d x => ∃ (k m kl : Nat) (pre : List UInt8), k ≤ 9 ∧ d = 10 - k ∧ m < 18446744073709551616 ∧ pre.length = k ∧ varint N = pre ++ varF (9 - k) m ∧ m * 128 ^ k < 18446744073709551616 ∧ x.env.get 0 = v ∧ x.env.get 1 = .i .u64 (m : Int) ∧ x.env.get 5 = .ptr kl 0 ∧ x.env.get 6 = .i .i64 k ∧ x.st.get kl = some (.cells (ofBytes (pre ++ List.replicate (10 - k) 0)) false) ∧ OutOK x.st v l ∧ kl < x.st.cnt ∧ (∀ j q, v = .rsl kl j q l.length → False)) ?_ ⟨0, N, st.cnt + 8, [], by omega, rfl, hN, rfl, rfl, by omega, ?_⟩ (by omega)
  · rintro d ⟨env, st1⟩ ⟨k, m, kl, pre, hk, rfl, hm, hpl, hvar, hpow, g0, g1, g5, g6, hkl, hout, hlt, hne⟩
    simp only at g0 g1 g5 g6 hkl hout hlt
    have hand := and127P m hm
    have hw8 : IntKind.u8.wrap ((m % 128 : Nat) : Int) = ((m % 128 : Nat) : Int) := wr_u8 _ ⟨by omega, by omega⟩
    have hk10 : ((k : Nat) : Int) < ((10 : Nat) : Int) := by omega
    have hreplen : (pre ++ List.replicate (10 - k) (0 : UInt8)).length = 10 := by simp; omega
    obtain ⟨c, hc⟩ : ∃ c : UInt8, ((m % 128 : Nat) : Int) = c.toNat := ⟨UInt8.ofNat (m % 128), by rw [ofNat_small (by omega)]⟩
    have hset : ∀ x : UInt8, (pre ++ List.replicate (10 - k) (0 : UInt8)).set k x = pre ++ [x] ++ List.replicate (10 - (k + 1)) 0 := by
      intro x
      rw [show (10 - k) = (10 - (k + 1)) + 1 by omega, List.replicate_succ, ← hpl, List.set_append_right _ _ (Nat.le_refl _), Nat.sub_self]
      simp
    have hst : ∀ n, storeP ⟨st1.sto, n⟩ 1 (.ptr kl (0 + k * 1)) (.i .u8 ((m % 128 : Nat) : Int)) = some (St.put ⟨st1.sto, n⟩ kl (some (.cells (ofBytes (pre ++ [c] ++ List.replicate (10 - (k + 1)) 0)) false))) := by
      intro n
      rw [hc, store_byte (st := ⟨st1.sto, n⟩) (l := pre ++ List.replicate (10 - k) 0) hkl (by omega) c, hset]
    have hout2 : ∀ st2 : St, (∀ q, q ≠ kl → st2.get q = st1.get q) → st1.cnt ≤ st2.cnt → OutOK st2 v l := by
      intro st2 hg hcn
      rcases hout with h | ⟨q, h1, h2, h3⟩
      · exact .inl h
      · refine .inr ⟨q, h1, ?_, by omega⟩
        have : q ≠ kl := fun e => hne 1 0 (by rw [← e]; exact h1)
        rw [hg q this]; exact h2
    rw [Z2]
    -- the byte
    refine Za (fun x => x.env.get 0 = v ∧ x.env.get 1 = PV.i .u64 (m : Int) ∧ x.env.get 5 = .ptr kl 0 ∧ x.env.get 6 = PV.i .i64 k ∧ x.st.get kl = some (.cells (ofBytes (pre ++ [c] ++ List.replicate (10 - (k + 1)) 0)) false) ∧ OutOK x.st v l ∧ kl < x.st.cnt) ?_ ?_
    · simp only [↓Z0, ↓Xp, ↓Xt, Xq, Xc, binP, ofCells, Nat.reduceAdd, Nat.reduceMul, Nat.reduceLT, Nat.reduceEqDiff, reduceIte, g0, g1, g5, g6, hand, hw8, hk10, hst]
      refine ⟨by omega, ?_⟩
      have a1 := St.get_putk (⟨st1.sto, st1.cnt + 48⟩ : St) kl (some (.cells (ofBytes (pre ++ [c] ++ List.replicate (10 - (k + 1)) 0)) false))
      have a2 := hout2 (St.put ⟨st1.sto, st1.cnt + 48⟩ kl (some (.cells (ofBytes (pre ++ [c] ++ List.replicate (10 - (k + 1)) 0)) false))) (fun q hq => by rw [St.get_put_ne (fun e => hq e.symm)]; rfl) (by show st1.cnt ≤ st1.cnt + 48; omega)
      have a3 : kl < (St.put ⟨st1.sto, st1.cnt + 48⟩ kl (some (.cells (ofBytes (pre ++ [c] ++ List.replicate (10 - (k + 1)) 0)) false))).cnt := by show kl < st1.cnt + 48; omega
      (repeat' (first | exact True.intro | rfl | assumption | omega | apply And.intro))
    clear hout2 hst g0 g1 g5 g6 hkl hout hlt
    rintro ⟨env, st1⟩ ⟨g0, g1, g5, g6, hkl, hout, hlt⟩
    simp only at g0 g1 g5 g6 hkl hout hlt
    have h70 : ¬ (Int.ofNat 7 < 0) := by decide
    have hdiv : (m : Int).fdiv (2 ^ (min (Int.ofNat 7).toNat IntKind.u64.bits)) = ((m / 128 : Nat) : Int) := by
      rw [show min (Int.ofNat 7).toNat IntKind.u64.bits = 7 from rfl, Int.fdiv_eq_ediv_of_nonneg _ (by decide)]
      show (m : Int) / 128 = _
      omega
    refine Za (fun x => x.env.get 0 = v ∧ x.env.get 1 = PV.i .u64 ((m / 128 : Nat) : Int) ∧ x.env.get 5 = .ptr kl 0 ∧ x.env.get 6 = PV.i .i64 k ∧ x.st.get kl = some (.cells (ofBytes (pre ++ [c] ++ List.replicate (10 - (k + 1)) 0)) false) ∧ OutOK x.st v l ∧ kl < x.st.cnt) ?_ ?_
    · simp only [↓Z0, ↓Xp, ↓Xt, Xq, Xc, binP, ofCells, Nat.reduceAdd, Nat.reduceMul, Nat.reduceLT, Nat.reduceEqDiff, reduceIte, g0, g1, g5, g6, h70, hdiv]
      have a2 : OutOK ⟨st1.sto, st1.cnt + 24⟩ v l := hout.mono (fun _ _ => rfl) (by show st1.cnt ≤ st1.cnt + 24; omega)
      (repeat' (first | exact True.intro | rfl | assumption | omega | apply And.intro))
    clear g0 g1 g5 g6 hkl hout hlt
    rintro ⟨env, st1⟩ ⟨g0, g1, g5, g6, hkl, hout, hlt⟩
    simp only at g0 g1 g5 g6 hkl hout hlt
    have hwi : IntKind.i64.wrap ((k : Int) + Int.ofNat 1) = ((k + 1 : Nat) : Int) := by
      rw [wr_i64 _ ⟨by show _ ≤ (k : Int) + 1; omega, by show (k : Int) + 1 < _; omega⟩]; rfl
    have hcv : c = UInt8.ofNat (m % 128) := UInt8.toNat_inj.1 (by rw [ofNat_small (by omega)]; omega)
    by_cases hsm : m < 128
    · have e0 : (((m / 128 : Nat) : Int) == Int.ofNat 0) = true := by rw [show m / 128 = 0 by omega]; rfl
      have hfin : varint N = pre ++ [c] := by
        rw [hvar, hcv, show m % 128 = m by omega]; congr 1
        cases 9 - k with
        | zero => rfl
        | succ f => simp [varF, hsm]
      have b1 : bound (some (.i .i64 ((k + 1 : Nat) : Int))) 10 10 = some (k + 1) := bound_ok ⟨by omega, by omega⟩
      have hlen10 : (ofBytes (pre ++ [c] ++ List.replicate (10 - (k + 1)) 0)).length = 10 := by rw [len_ofBytes]; simp; omega
      have hcl : ∀ n, cellsOf ⟨st1.sto, n⟩ 1 (.rsl kl 1 0 (k + 1)) = some (k + 1, ofBytes (pre ++ [c])) := by
        intro n
        have hg : St.get ⟨st1.sto, n⟩ kl = some (.cells (ofBytes (pre ++ [c] ++ List.replicate (10 - (k + 1)) 0)) false) := hkl
        unfold cellsOf
        simp only [hg, ne_eq, not_true_eq_false, if_false, cut?, Nat.mul_one, Nat.zero_add, hlen10, List.drop_zero]
        rw [if_pos (by omega), take_ofBytes]
        simp only [Option.map_some]
        rw [List.take_append_of_le_length (by simp; omega), List.take_of_length_le (by simp; omega)]
      obtain ⟨st', happ, hq, hcnt', _⟩ := app_out (st := ⟨st1.sto, st1.cnt + 64⟩) (l := l) (news := pre ++ [c]) (v := v) (hout.mono (fun _ _ => rfl) (by show st1.cnt ≤ st1.cnt + 64; omega)) (key := st1.cnt + 48) (by simp) (by simp; omega)
      have hpc : (pre ++ [c]).length = k + 1 := by simp; omega
      have hone := one_ofBytes (pre ++ [c])
      rw [hpc] at happ
      simp only [↓Z0, ↓Xp, ↓Xt, Xq, Xc, binP, ofCells, Nat.reduceAdd, Nat.reduceMul, Nat.reduceLT, Nat.reduceEqDiff, reduceIte, Xm, Nat.reduceLeDiff, g0, g1, g5, g6, e0, hwi, b1, hkl, hlen10, Nat.sub_zero, hcl, hone, happ]
      refine ⟨nofun, _, rfl, st1.cnt + 48, ?_, ?_⟩
      · simp only [tupV, hfin, List.length_append, List.length_singleton, ↓Z0, ↓Xp, ↓Xt, Xq, Xc, binP, ofCells, Nat.reduceAdd, Nat.reduceMul, Nat.reduceLT, Nat.reduceEqDiff, reduceIte]
        simp only [hpl]
        try rfl
      · rw [hfin]; exact hq
    · have e0 : (((m / 128 : Nat) : Int) == Int.ofNat 0) = false := by
        simp only [beq_eq_false_iff_ne, ne_eq]; intro q
        have : ((m / 128 : Nat) : Int) = 0 := q
        omega
      have hk9 : k ≠ 9 := by
        intro h
        subst h
        have e : (128 : Nat) ^ 9 = 9223372036854775808 := by decide
        rw [e] at hpow
        omega
      have hk10' : ((k : Nat) : Int) < ((10 : Nat) : Int) := by omega
      have hck : k < (pre ++ [c] ++ List.replicate (10 - (k + 1)) (0 : UInt8)).length := by simp; omega
      have hgc : (pre ++ [c] ++ List.replicate (10 - (k + 1)) (0 : UInt8)).getD k 0 = c := by
        rw [List.getD_eq_getElem?_getD, List.append_assoc, List.getElem?_append_right (by omega), hpl, Nat.sub_self]; rfl
      have hld : ∀ n, loadP ⟨st1.sto, n⟩ 1 (.ptr kl (0 + k * 1)) = some [.i .u8 (c.toNat : Int)] := by
        intro n
        rw [load_byte (st := ⟨st1.sto, n⟩) hkl hck, hgc]
      have hor : ibits .or .u8 (c.toNat : Int) (Int.ofNat 128) = some (.i .u8 (((UInt8.ofNat (m % 128 + 128)).toNat : Nat) : Int)) := by
        rw [← hc, or128P _ (by omega), ofNat_small (by omega)]
      have hst : ∀ n, storeP ⟨st1.sto, n⟩ 1 (.ptr kl (0 + k * 1)) (.i .u8 (((UInt8.ofNat (m % 128 + 128)).toNat : Nat) : Int)) = some (St.put ⟨st1.sto, n⟩ kl (some (.cells (ofBytes ((pre ++ [UInt8.ofNat (m % 128 + 128)]) ++ List.replicate (10 - (k + 1)) 0)) false))) := by
        intro n
        rw [store_byte (st := ⟨st1.sto, n⟩) hkl hck, List.append_assoc, ← hpl, List.set_append_right _ _ (Nat.le_refl _), Nat.sub_self]
        simp
      have a2 : OutOK (St.put ⟨st1.sto, st1.cnt + 64⟩ kl (some (.cells (ofBytes ((pre ++ [UInt8.ofNat (m % 128 + 128)]) ++ List.replicate (10 - (k + 1)) 0)) false))) v l := by
        rcases hout with h | ⟨q, h1, h2, h3⟩
        · exact .inl h
        · refine .inr ⟨q, h1, ?_, by show q < st1.cnt + 64; omega⟩
          rw [St.get_put_ne (fun e => hne 1 0 (by rw [e]; exact h1))]; exact h2
      have a1 := St.get_putk (⟨st1.sto, st1.cnt + 64⟩ : St) kl (some (.cells (ofBytes ((pre ++ [UInt8.ofNat (m % 128 + 128)]) ++ List.replicate (10 - (k + 1)) 0)) false))
      have a3 : kl < (St.put ⟨st1.sto, st1.cnt + 64⟩ kl (some (.cells (ofBytes ((pre ++ [UInt8.ofNat (m % 128 + 128)]) ++ List.replicate (10 - (k + 1)) 0)) false))).cnt := by show kl < st1.cnt + 64; omega
      have a4 : varint N = (pre ++ [UInt8.ofNat (m % 128 + 128)]) ++ varF (9 - (k + 1)) (m / 128) := by
        rw [hvar, show 9 - k = (9 - (k + 1)) + 1 by omega]
        conv => lhs; unfold varF
        rw [if_neg hsm]; simp
      have a5 : m / 128 * 128 ^ (k + 1) < 18446744073709551616 := by
        rw [Nat.pow_succ, Nat.mul_comm (128 ^ k), ← Nat.mul_assoc]
        have : m / 128 * 128 * 128 ^ k ≤ m * 128 ^ k := Nat.mul_le_mul_right _ (by omega)
        omega
      have a6 : (pre ++ [UInt8.ofNat (m % 128 + 128)]).length = k + 1 := by simp; omega
      simp only [↓Z0, ↓Xp, ↓Xt, Xq, Xc, binP, ofCells, Nat.reduceAdd, Nat.reduceMul, Nat.reduceLT, Nat.reduceEqDiff, reduceIte, g0, g1, g5, g6, e0, hk10', hld, hor, hst, hwi]
      exact ⟨by omega, by omega, 10 - (k + 1), by omega, k + 1, m / 128, kl, pre ++ [UInt8.ofNat (m % 128 + 128)], by omega, rfl, by omega, a6, a4, a5, rfl, rfl, rfl, a1, a2.mono (fun _ _ => rfl) (Nat.le_add_right _ _), Nat.lt_of_lt_of_le a3 (Nat.le_add_right _ _), hne⟩
  · have hne : ∀ j q, v = .rsl (st.cnt + 8) j q l.length → False := by
      intro j q h
      rcases hv with ⟨h1, _⟩ | ⟨k, h1, _, h3⟩
      · rw [h1] at h; cases h
      · rw [h1] at h; injection h with h4; omega
    have b2 : ∀ (o : Option PObj) (n : Nat), st.cnt ≤ n → OutOK ⟨(St.put ⟨st.sto, st.cnt + 16⟩ (st.cnt + 8) o).sto, n⟩ v l := by
      intro o n hn
      refine hv.mono (fun k hk => ?_) hn
      show (St.put ⟨st.sto, st.cnt + 16⟩ (st.cnt + 8) o).get k = _
      rw [St.get_put_ne (by omega)]; rfl
    refine ⟨rfl, rfl, rfl, rfl, ?_, ?_, ?_, hne⟩
    · show (St.put _ (st.cnt + 8) _).get (st.cnt + 8) = _
      rw [St.get_putk]
      rfl
    · exact b2 _ _ (by omega)
    · show st.cnt + 8 < st.cnt + 24
      omega
end Go.Pe
set_option linter.unusedVariables false
set_option linter.unusedSimpArgs false
namespace Go.Pe
open Go Go.Am Go.RowKit

theorem fold_ev {cfg : Cfg} (hf : cfg.fn 39 = some m39) {fuel : Nat} {st : St} {n : Int} (hn : in64 n) :
    ∃ r st', evFn cfg (fuel + 1) 39 [.i .i64 n] st = some (r, st') ∧ r = .i .u64 ((foldN n : Nat) : Int) := by
  refine evFn_W hf ?_
  unfold m39
  unfold in64 at hn
  have h63 : ¬ (Int.ofNat 63 < 0) := by decide
  have h10 : ¬ (Int.ofNat 1 < 0) := by decide
  have e63 : (2 : Int) ^ (min (Int.ofNat 63).toNat IntKind.i64.bits) = 9223372036854775808 := by rfl
  have e1 : (2 : Int) ^ (min (Int.ofNat 1).toNat IntKind.u64.bits) = 2 := by rfl
  have x64 : IntKind.u64.wrap n = ((n % 18446744073709551616).toNat : Int) := by rw [IntKind.wrap_u64]; omega
  have x642 : IntKind.u64.wrap (((n % 18446744073709551616).toNat : Int) * 2) = ((2 * n % 18446744073709551616).toNat : Int) := by rw [IntKind.wrap_u64]; omega
  by_cases h : 0 ≤ n
  · have hd : n.fdiv 9223372036854775808 = ((0 : Nat) : Int) := by rw [Int.fdiv_eq_ediv_of_nonneg _ (by decide)]; omega
    have hw : IntKind.u64.wrap ((0 : Nat) : Int) = ((0 : Nat) : Int) := by rfl
    have hx : ibits .xor .u64 ((0 : Nat) : Int) ((2 * n % 18446744073709551616).toNat : Int) = some (.i .u64 ((foldN n : Nat) : Int)) := by
      rw [ibits_xor64 0 _ (by decide) (by omega), Nat.zero_xor]
      unfold foldN
      rw [if_pos h]
      congr 3
      omega
    simp only [putArgs, ↓Z0, ↓Xp, ↓Xt, Xq, Xc, binP, ofCells, Nat.reduceAdd, Nat.reduceMul, Nat.reduceLT, Nat.reduceEqDiff, reduceIte, Xm, Nat.reduceLeDiff, h63, h10, e63, e1, hd, hw, x64, x642, hx]
    refine ⟨nofun, _, rfl, ?_⟩
    simp only [tupV, ↓Z0, ↓Xp, ↓Xt, Xq, Xc, binP, ofCells, Nat.reduceAdd, Nat.reduceMul, Nat.reduceLT, Nat.reduceEqDiff, reduceIte]
  · have hd : n.fdiv 9223372036854775808 = -1 := by rw [Int.fdiv_eq_ediv_of_nonneg _ (by decide)]; omega
    have hw : IntKind.u64.wrap (-1) = ((18446744073709551615 : Nat) : Int) := by rfl
    have hx : ibits .xor .u64 ((18446744073709551615 : Nat) : Int) ((2 * n % 18446744073709551616).toNat : Int) = some (.i .u64 ((foldN n : Nat) : Int)) := by
      rw [ibits_xor64 _ _ (by decide) (by omega)]
      have := Lib.xor_ones64 (2 * n % 18446744073709551616).toNat (by omega)
      rw [show (18446744073709551615 : Nat) = 2 ^ 64 - 1 by decide, this]
      unfold foldN
      rw [if_neg h]
      congr 3
      omega
    simp only [putArgs, ↓Z0, ↓Xp, ↓Xt, Xq, Xc, binP, ofCells, Nat.reduceAdd, Nat.reduceMul, Nat.reduceLT, Nat.reduceEqDiff, reduceIte, Xm, Nat.reduceLeDiff, h63, h10, e63, e1, hd, hw, x64, x642, hx]
    refine ⟨nofun, _, rfl, ?_⟩
    simp only [tupV, ↓Z0, ↓Xp, ↓Xt, Xq, Xc, binP, ofCells, Nat.reduceAdd, Nat.reduceMul, Nat.reduceLT, Nat.reduceEqDiff, reduceIte]
def gFold : List PV → Option PV
  | [.i .i64 n] => if -9223372036854775808 ≤ n ∧ n ≤ 9223372036854775807 then some (.i .u64 ((foldN n : Nat) : Int)) else none
  | _ => none
def outL : PV → Option (List UInt8)
  | .nsl => some []
  | .osl 1 n cs => match bytesOf? cs with
    | some l => if n = l.length then some l else none
    | none => none
  | _ => none
def gUint : List PV → Option PV
  | [v, .i .u64 N] => match outL v with
    | some l => if 0 ≤ N ∧ N < 18446744073709551616 ∧ l.length + 10 ≤ maxBytes then some (.osl 1 (l ++ varint N.toNat).length (ofBytes (l ++ varint N.toNat))) else none
    | none => none
  | _ => none
def gInt : List PV → Option PV
  | [v, .i .i64 n] => match outL v with
    | some l => if -9223372036854775808 ≤ n ∧ n ≤ 9223372036854775807 ∧ l.length + 10 ≤ maxBytes then some (.osl 1 (l ++ varint (foldN n)).length (ofBytes (l ++ varint (foldN n)))) else none
    | none => none
  | _ => none
theorem evP_own {cfg : Cfg} {f : FuncId} (hx : cfg.ext f = none) {fuel : Nat} {args : List PV} {r : PV} (h : ∃ r' st', evFn cfg fuel f (openArgs args).1 (openArgs args).2 = some (r', st') ∧ closeRes st' r' = some r) : evP cfg fuel f args = some r := by
  obtain ⟨r', st', h1, h2⟩ := h
  unfold evP runPure
  simp only [hx]
  unfold callP
  rw [h1]
  exact h2
theorem open_out {v : PV} {l : List UInt8} {rest : List PV} (h : outL v = some l) : ∃ v', openArgs (v :: rest) = (v' :: rest, (openArgs (v :: rest)).2) ∧ OutOK (openArgs (v :: rest)).2 v' l ∧ (openArgs (v :: rest)).2.cnt = 1 := by
  unfold outL at h
  split at h
  · simp only [Option.some.injEq] at h
    subst h
    exact ⟨.nsl, rfl, .inl ⟨rfl, rfl⟩, rfl⟩
  · rename_i n cs
    split at h
    · rename_i l' hl
      split at h
      · rename_i hn
        simp only [Option.some.injEq] at h
        subst h
        have := of_bytesOf hl
        subst this
        subst hn
        refine ⟨.rsl 0 1 0 l'.length, rfl, .inr ⟨0, rfl, ?_, by show 0 < 1; omega⟩, rfl⟩
        exact St.get_putk _ _ _
      · simp at h
    · simp at h
  · simp at h
theorem call_out {g : List PV → Option PV} {st : St} {key : Nat} {v : PV} {l l' : List UInt8} {rest : List PV} (ho : OutOK st v l) (hr : rest.all PV.flat = true) (hg : ∀ v', outL v' = some l → g (v' :: rest) = some (.osl 1 l'.length (ofBytes l'))) :
    ∃ st', callStep g true st key (v :: rest) = some (.rsl key 1 0 l'.length, st') ∧ st'.get key = some (.cells (ofBytes l') false) ∧ st'.cnt = st.cnt ∧ ∀ j, j ≠ key → (∀ a b c, v ≠ .rsl j a b c) → st'.get j = st.get j := by
  rcases ho with ⟨rfl, rfl⟩ | ⟨k, rfl, hk, _⟩
  · exact ⟨_, call_nil hr (hg .nsl rfl), St.get_putk _ _ _, rfl, fun j hj _ => St.get_put_ne (fun e => hj e.symm)⟩
  · refine ⟨_, call_own hk hr (hg _ ?_), St.get_putk _ _ _, rfl, fun j hj hv => ?_⟩
    · unfold outL
      simp only [bytesOf_of, if_true]
    · rw [St.get_put_ne (fun e => hj e.symm), St.get_put_ne (fun e => hv 1 0 l.length (by rw [e]))]
def extE1 : FuncId → Option (List PV → Option PV) := fun f => if f = 39 then some gFold else if f = 11 then some gUint else none
theorem int_ev {cfg : Cfg} (hf : cfg.fn 14 = some m14) (hx1 : cfg.ext 39 = some gFold) (hx2 : cfg.ext 11 = some gUint) {fuel : Nat} {st : St} {v : PV} {l : List UInt8} (hv : OutOK st v l) {n : Int} (hn : in64 n) (hl : l.length + 10 ≤ maxBytes) :
    ∃ r st', evFn cfg (fuel + 1) 14 [v, .i .i64 n] st = some (r, st') ∧ ∃ q, r = .rsl q 1 0 (l ++ varint (foldN n)).length ∧ st'.get q = some (.cells (ofBytes (l ++ varint (foldN n))) false) := by
  refine evFn_W hf ?_
  unfold m14
  have hfl := foldN_lt hn
  have c1 : ∀ (st : St) (key : Nat), callStep (runPure cfg (evFn cfg fuel) 39) false st key [.i .i64 n] = some (.i .u64 ((foldN n : Nat) : Int), st) := by
    intro st key
    refine callStep_flat rfl ?_ rfl
    rw [runPure_ext hx1]
    unfold gFold
    unfold in64 at hn
    simp only []
    rw [if_pos (by omega)]
  obtain ⟨st', h1, h2, _, _⟩ := call_out (g := runPure cfg (evFn cfg fuel) 11) (st := ⟨st.sto, st.cnt + 48⟩) (key := st.cnt + 32) (rest := [.i .u64 ((foldN n : Nat) : Int)]) (l' := l ++ varint (foldN n)) (hv.mono (fun _ _ => rfl) (by show st.cnt ≤ st.cnt + 48; omega)) rfl (by
    intro v' hv'
    rw [runPure_ext hx2]
    unfold gUint
    simp only [hv', Int.toNat_natCast]
    rw [if_pos ⟨by omega, by omega, hl⟩])
  simp only [putArgs, ↓Z0, ↓Xp, ↓Xt, Xq, Xc, binP, ofCells, Nat.reduceAdd, Nat.reduceMul, Nat.reduceLT, Nat.reduceEqDiff, reduceIte, Xm, Nat.reduceLeDiff, c1, h1]
  refine ⟨nofun, _, rfl, st.cnt + 32, ?_, h2⟩
  simp only [tupV, ↓Z0, ↓Xp, ↓Xt, Xq, Xc, binP, ofCells, Nat.reduceAdd, Nat.reduceMul, Nat.reduceLT, Nat.reduceEqDiff, reduceIte]
end Go.Pe
