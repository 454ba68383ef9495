/-
  What the readers of package bytes compute: number, GetUint, GetInt, and the folding of signed numbers. No condition.
-/
import Derived.Test.YtmjoneiagfegdaaBytesS
set_option linter.unusedVariables false
namespace Go.Proofs.Ytmjoneiagfegdaa
open Go.RowKit Go.Am

theorem and127b (b : Nat) (h : b < 256) : bits .and .u8 (b : Int) 127 = ((b % 128 : Nat) : Int) := by
  have := u8_and_nat b 127 h (by decide)
  rw [nat_mask7] at this
  exact this
theorem and128b (b : Nat) (h : b < 256) : bits .and .u8 (b : Int) 128 = ((b / 128 * 128 : Nat) : Int) := by
  have := u8_and_nat b 128 h (by decide)
  have h2 := nat_bit 7 b
  rw [show (2 : Nat) ^ 7 = 128 by decide] at h2
  rw [h2, Nat.mod_eq_of_lt (show b / 128 < 2 by omega)] at this
  exact this
theorem accum (acc c k : Nat) : IntKind.u64.wrap ((acc : Int) + IntKind.u64.wrap ((c : Int) % 128 * 2 ^ (7 * k))) = (((acc + c % 128 * 2 ^ (7 * k)) % 18446744073709551616 : Nat) : Int) := by
  rw [IntKind.wrap_u64, IntKind.wrap_u64]
  have e : (c : Int) % 128 * 2 ^ (7 * k) = ((c % 128 * 2 ^ (7 * k) : Nat) : Int) := by push_cast; rfl
  rw [e]
  generalize c % 128 * 2 ^ (7 * k) = t
  omega
theorem drop_bi {xs : List UInt8} {k : Nat} (h : k < xs.length) : ∃ c, xs.drop k = c :: xs.drop (k + 1) ∧ c.toNat = bi xs k :=
  ⟨xs[k], by rw [List.drop_eq_getElem_cons h], (bi_lt h).symm⟩

set_option maxHeartbeats 1000000 in
theorem number_any (ao : Option Addr) (n cap : Nat) (xs : List UInt8) (w : World) (hx : Rd w 1 ao n cap (bytesC xs)) (v : Nat) (j : Int) (hv : parse xs = (v, j)) :
    Calls Try.prog 37 #[.slice ao n cap] w fun e w' => e = .returned (.tuple #[.int .u64 (v : Int), .int .i64 j]) ∧ w = w' := by
  have hl3 := hx.lecap
  have hl4 := hx.lemax
  have hix := idx_run (P := Try.prog) hx Try.underlying23 el_u8.sz .i64
  have hcx := hx.byteCell
  have Hl := Lib.hid hx.byteLen
  have Hv := Lib.hid hv
  clear hx hv
  go_enter Try.func37, Try.ntmps37
  go_wp2_with fail
  go_loop [4, 9] (fun a i => ∃ k acc : Nat, k ≤ n ∧ k ≤ 9 ∧ i = .int .i64 k ∧ a = .int .u64 (acc : Int) ∧ acc < 18446744073709551616 ∧ Hid (parse xs = numF k acc (xs.drop k))) (fun _ i => n - (intOf i).toNat)
  case atStart => exact ⟨0, 0, by omega, by omega, rfl, rfl, by omega, rfl⟩
  case round =>
    obtain ⟨k, acc, hk, hk9, rfl, rfl, hacc, hp⟩ := hrel
    by_cases hlt : k < n
    · have hc2 := bi_lt256 xs k
      obtain ⟨c, hc, hcb⟩ := drop_bi (xs := xs) (k := k) (by have := Hl.out; omega)
      have Hp : Hid (parse xs = numF k acc (c :: xs.drop (k + 1))) := by rw [← hc]; exact hp.out
      have Hcb := Lib.hid hcb
      have hand := and127b (bi xs k) hc2
      have hacc2 := accum acc (bi xs k) k
      have hand2 := and128b (bi xs k) hc2
      clear hc hcb hp
      by_cases h1 : k = 9 ∧ 1 < bi xs k
      · obtain ⟨rfl, h1⟩ := h1
        have hr : (v, j) = (0, -1) := by rw [← Hv.out, Hp.out, numF, if_pos ⟨rfl, by rw [Hcb.out]; exact h1⟩]
        obtain ⟨rfl, rfl⟩ := Prod.mk.inj hr
        clear hr
        go_wp2_with fail
        go_ret2
        exact ⟨rfl, rfl⟩
      · by_cases h2 : 128 ≤ bi xs k
        · have hk8 : k < 9 := by omega
          have hne : (((bi xs k / 128 * 128 : Nat) : Int) != 0) = true := by simp; omega
          have Hr : Hid (parse xs = numF (k + 1) ((acc + bi xs k % 128 * 2 ^ (7 * k)) % 18446744073709551616) (xs.drop (k + 1))) := by
            show _ = _
            rw [Hp.out]; simp only [numF]; rw [if_neg (by rw [Hcb.out]; omega), if_pos (by rw [Hcb.out]; exact h2), Hcb.out]
          clear h1 Hp
          go_wp2_with fail
          go_round
          case rel => exact ⟨k + 1, (acc + bi xs k % 128 * 2 ^ (7 * k)) % 18446744073709551616, by omega, by omega, by go_num, by first | rfl | (rw [hacc2]), by omega, Hr⟩
          case measure => show n - ((k : Int) + 1).toNat < n - (k : Int).toNat; omega
        · have hne : (((bi xs k / 128 * 128 : Nat) : Int) != 0) = false := by simp; omega
          by_cases h3 : bi xs k = 0 ∧ 0 < k
          · obtain ⟨h3, h4⟩ := h3
            have hr : (v, j) = (0, -1) := by rw [← Hv.out, Hp.out]; simp only [numF]; rw [if_neg (by rw [Hcb.out]; omega), if_neg (by rw [Hcb.out]; exact h2), if_pos ⟨by rw [Hcb.out]; exact h3, h4⟩]
            obtain ⟨rfl, rfl⟩ := Prod.mk.inj hr
            have hb0 : ((bi xs k : Int) == 0) = true := by simp; omega
            have hb9 : ¬ 1 < bi xs k := by omega
            clear hr h1
            by_cases h9 : k = 9
            · subst h9
              go_wp2_with fail
              go_ret2
              exact ⟨rfl, rfl⟩
            · have hb1 : ((k : Int) == 9) = false := by simp; omega
              clear h9
              go_wp2_with fail
              go_ret2
              exact ⟨rfl, rfl⟩
          · have hr : (v, j) = ((acc + bi xs k % 128 * 2 ^ (7 * k)) % 18446744073709551616, (k : Int) + 1) := by rw [← Hv.out, Hp.out]; simp only [numF]; rw [if_neg (by rw [Hcb.out]; omega), if_neg (by rw [Hcb.out]; exact h2), if_neg (by rw [Hcb.out]; exact h3), Hcb.out]
            obtain ⟨hv1, rfl⟩ := Prod.mk.inj hr
            have Hv1 := Lib.hid hv1
            clear hr hv1
            by_cases h9 : k = 9
            · subst h9
              have hb9 : ¬ 1 < bi xs 9 := by omega
              have hb0 : ((bi xs 9 : Int) == 0) = false := by simp; omega
              clear h1 h3
              go_wp2_with fail
              go_ret2
              exact ⟨by rw [Hv1.out]; first | rfl | (rw [← hacc2]; rfl), rfl⟩
            · have hb1 : ((k : Int) == 9) = false := by simp; omega
              clear h9 h1
              by_cases h0 : bi xs k = 0
              · have hk0 : ¬ 0 < k := by omega
                have hb0 : ((bi xs k : Int) == 0) = true := by simp; omega
                clear h3 h0
                go_wp2_with fail
                go_ret2
                exact ⟨by rw [Hv1.out]; first | rfl | (rw [← hacc2]; rfl), rfl⟩
              · have hb0 : ((bi xs k : Int) == 0) = false := by simp; omega
                clear h3
                go_wp2_with fail
                go_ret2
                exact ⟨by rw [Hv1.out]; first | rfl | (rw [← hacc2]; rfl), rfl⟩
    · have hr : (v, j) = (0, 0) := by rw [← Hv.out, hp.out, List.drop_of_length_le (by have := Hl.out; omega)]; simp [numF]
      obtain ⟨rfl, rfl⟩ := Prod.mk.inj hr
      clear hr
      go_wp2_with fail
      go_ret2
      exact ⟨rfl, rfl⟩

set_option maxHeartbeats 1000000 in
theorem getuint_any (ao : Option Addr) (n cap : Nat) (xs : List UInt8) (at_ : Int) (w : World) (hx : Rd w 1 ao n cap (bytesC xs)) (hat : in64 at_) (v : Nat) (nx er : Int) (hv : getU xs at_ = (v, nx, er)) :
    Calls Try.prog 12 #[.slice ao n cap, .int .i64 at_] w fun e w' => e = .returned (.tuple #[.int .u64 (v : Int), .int .i64 nx, .int .i64 er]) ∧ w = w' := by
  have Hl := Lib.hid hx.byteLen
  have hl1 := hx.lecap
  have hl2 := hx.lemax
  unfold getU at hv
  by_cases h1 : at_ < 0 ∨ xs.length < at_
  · rw [if_pos h1, Prod.mk.injEq, Prod.mk.injEq] at hv
    obtain ⟨rfl, rfl, rfl⟩ := hv
    by_cases h0 : at_ < 0
    · clear h1
      go_enter Try.func12, Try.ntmps12
      go_wp2_with fail
      go_ret3
      exact ⟨rfl, rfl⟩
    · have h2 : (n : Int) < at_ := by have := Hl.out; omega
      have h0' : decide (at_ < 0) = false := by simpa using h0
      clear h1
      go_enter Try.func12, Try.ntmps12
      go_wp2_with fail
      go_ret3
      exact ⟨rfl, rfl⟩
  · rw [if_neg h1] at hv
    obtain ⟨a, rfl⟩ := Int.eq_ofNat_of_zero_le (show 0 ≤ at_ by omega)
    rw [Int.toNat_natCast] at hv
    have han : a ≤ n := by have := Hl.out; omega
    have h0' : decide ((a : Int) < 0) = false := by simp
    have h2' : decide ((n : Int) < (a : Int)) = false := by simp; omega
    clear h1 hat
    obtain ⟨ao2, cap2, hsl, hr2⟩ := hx.from Try.underlying23 el_u8.sz han
    have hr2' : Rd w 1 ao2 (n - a) cap2 (bytesC (xs.drop a)) := by
      have e : (bytesC xs).drop (a * 1) = bytesC (xs.drop a) := by simp [bytesC, List.map_drop]
      rw [e] at hr2; exact hr2
    obtain ⟨pv, pj, hp⟩ : ∃ pv pj, parse (xs.drop a) = (pv, pj) := ⟨_, _, rfl⟩
    have hpl := parse_le (xs.drop a)
    rw [hp] at hv hpl
    simp only [] at hv hpl
    have hpb : pj ≤ (n : Int) - a := by have := Hl.out; simp at hpl; omega
    clear hpl hx hr2
    by_cases hj0 : pj = 0
    · rw [if_pos hj0, Prod.mk.injEq, Prod.mk.injEq] at hv
      obtain ⟨rfl, rfl, rfl⟩ := hv
      have hb0 : (pj == 0) = true := by simpa using hj0
      have Hp := Lib.hid hp
      clear hj0 hp
      go_enter Try.func12, Try.ntmps12
      go_wp2_with fail
      refine (number_any ao2 (n - a) cap2 _ _ hr2' pv pj Hp.out).mono ?_
      rintro e w' ⟨rfl, rfl⟩
      go_wp2_with fail
      go_ret3
      exact ⟨rfl, rfl⟩
    · rw [if_neg hj0] at hv
      have hb0 : (pj == 0) = false := by simpa using hj0
      by_cases hj1 : pj < 0
      · rw [if_pos hj1, Prod.mk.injEq, Prod.mk.injEq] at hv
        obtain ⟨rfl, rfl, rfl⟩ := hv
        have Hp := Lib.hid hp
        clear hj0 hp
        go_enter Try.func12, Try.ntmps12
        go_wp2_with fail
        refine (number_any ao2 (n - a) cap2 _ _ hr2' pv pj Hp.out).mono ?_
        rintro e w' ⟨rfl, rfl⟩
        go_wp2_with fail
        go_ret3
        exact ⟨rfl, rfl⟩
      · rw [if_neg hj1, Prod.mk.injEq, Prod.mk.injEq] at hv
        obtain ⟨rfl, rfl, rfl⟩ := hv
        have Hp := Lib.hid hp
        clear hj0 hp
        go_enter Try.func12, Try.ntmps12
        go_wp2_with fail
        refine (number_any ao2 (n - a) cap2 _ _ hr2' pv pj Hp.out).mono ?_
        rintro e w' ⟨rfl, rfl⟩
        go_wp2_with fail
        go_ret3
        exact ⟨rfl, rfl⟩

theorem fold_bits {n : Int} (h : in64 n) : bits .xor .u64 (IntKind.u64.wrap (n / 9223372036854775808)) (IntKind.u64.wrap (IntKind.u64.wrap n * 2)) = ((foldN n : Nat) : Int) := by
  obtain ⟨h1, h2⟩ := h
  by_cases h0 : 0 ≤ n
  · have e1 : IntKind.u64.wrap (n / 9223372036854775808) = ((0 : Nat) : Int) := by rw [IntKind.wrap_u64]; omega
    have e2 : IntKind.u64.wrap (IntKind.u64.wrap n * 2) = ((foldN n : Nat) : Int) := by rw [IntKind.wrap_u64, IntKind.wrap_u64]; unfold foldN; rw [if_pos h0]; omega
    rw [e1, e2, u64_xor_nat 0 _ (by decide) (foldN_lt ⟨h1, h2⟩), Nat.zero_xor]
  · have e1 : IntKind.u64.wrap (n / 9223372036854775808) = ((2 ^ 64 - 1 : Nat) : Int) := by rw [IntKind.wrap_u64]; omega
    have e2 : IntKind.u64.wrap (IntKind.u64.wrap n * 2) = (((2 * n + 18446744073709551616).toNat : Nat) : Int) := by rw [IntKind.wrap_u64, IntKind.wrap_u64]; omega
    rw [e1, e2, u64_xor_nat _ _ (by decide) (by omega), Lib.xor_ones64 _ (by omega)]
    unfold foldN; rw [if_neg h0]; omega
set_option maxHeartbeats 400000 in
theorem folded_any (n : Int) (w : World) (h : in64 n) : Calls Try.prog 39 #[.int .i64 n] w fun e w' => e = .returned (.int .u64 ((foldN n : Nat) : Int)) ∧ w = w' := by
  have Hf := Lib.hid (fold_bits h)
  obtain ⟨h1, h2⟩ := h
  go_enter Try.func39, Try.ntmps39
  go_wp2
  go_ret
  exact ⟨by rw [← Hf.out]; rfl, rfl⟩

theorem i64_xor_zero (x : Nat) (hx : x < 9223372036854775808) : bits .xor .i64 (x : Int) 0 = (x : Int) := by
  show IntKind.i64.wrap ((BitVec.ofInt 64 (x : Int) ^^^ BitVec.ofInt 64 0).toNat : Int) = _
  have h2 : (BitVec.ofInt 64 (x : Int)).toNat = x := by
    rw [BitVec.ofInt_natCast, BitVec.toNat_ofNat]; exact Nat.mod_eq_of_lt (by omega)
  have h1 : (BitVec.ofInt 64 0).toNat = 0 := by decide
  rw [BitVec.toNat_xor, h1, h2, Nat.xor_zero, IntKind.wrap_i64]
  omega
theorem i64_xor_ones (x : Nat) (hx : x < 9223372036854775808) : bits .xor .i64 (x : Int) (-1) = -(x : Int) - 1 := by
  show IntKind.i64.wrap ((BitVec.ofInt 64 (x : Int) ^^^ BitVec.ofInt 64 (-1)).toNat : Int) = _
  have h1 : (BitVec.ofInt 64 (-1)).toNat = 2 ^ 64 - 1 := by decide
  have h2 : (BitVec.ofInt 64 (x : Int)).toNat = x := by
    rw [BitVec.ofInt_natCast, BitVec.toNat_ofNat]; exact Nat.mod_eq_of_lt (by omega)
  rw [BitVec.toNat_xor, h1, h2, Nat.xor_comm, Lib.xor_ones64 x (by omega), IntKind.wrap_i64]
  omega
theorem open_bits {m : Nat} (h : m < 18446744073709551616) : bits .xor .i64 ((m : Int) / 2) (wrap64 (-wrap64 (bits .and .u64 (m : Int) 1))) = openI m := by
  rw [Lib.u64_and1 _ (by omega) (by omega)]
  have e0 : (m : Int) / 2 = ((m / 2 : Nat) : Int) := by omega
  rw [e0]
  unfold openI
  by_cases hm : m % 2 = 0
  · have e1 : (m : Int) % 2 = 0 := by omega
    have e2 : wrap64 (-wrap64 0) = 0 := by unfold wrap64; decide
    rw [e1, e2, if_pos hm, i64_xor_zero _ (by omega)]
  · have e1 : (m : Int) % 2 = 1 := by omega
    have e2 : wrap64 (-wrap64 1) = -1 := by unfold wrap64; decide
    rw [e1, e2, if_neg hm, i64_xor_ones _ (by omega)]
set_option maxHeartbeats 400000 in
theorem opened_any (m : Nat) (w : World) (h : m < 18446744073709551616) : Calls Try.prog 38 #[.int .u64 (m : Int)] w fun e w' => e = .returned (.int .i64 (openI m)) ∧ w = w' := by
  have Hf := Lib.hid (open_bits h)
  go_enter Try.func38, Try.ntmps38
  go_wp2
  go_ret
  exact ⟨by rw [← Hf.out]; rfl, rfl⟩

set_option maxHeartbeats 400000 in
theorem getint_any (ao : Option Addr) (n cap : Nat) (xs : List UInt8) (at_ : Int) (w : World) (hx : Rd w 1 ao n cap (bytesC xs)) (hat : in64 at_) (v : Int) (nx er : Int) (hv : getI xs at_ = (v, nx, er)) :
    Calls Try.prog 13 #[.slice ao n cap, .int .i64 at_] w fun e w' => e = .returned (.tuple #[.int .i64 v, .int .i64 nx, .int .i64 er]) ∧ w = w' := by
  obtain ⟨uv, un, ue, hu⟩ : ∃ uv un ue, getU xs at_ = (uv, un, ue) := ⟨_, _, _, rfl⟩
  have hlt := getU_lt xs at_
  unfold getI at hv
  rw [hu] at hv hlt
  simp only [] at hv hlt
  have Hu := Lib.hid hu; clear hu
  by_cases h0 : ue = 0
  · rw [if_pos h0, Prod.mk.injEq, Prod.mk.injEq] at hv
    obtain ⟨rfl, rfl, rfl⟩ := hv
    have hb : (ue != 0) = false := by simpa using h0
    clear h0
    go_enter Try.func13, Try.ntmps13
    go_wp2_with fail
    refine (getuint_any ao n cap xs at_ w hx hat uv un ue Hu.out).mono ?_
    rintro e w' ⟨rfl, rfl⟩
    go_wp2_with fail
    refine (opened_any uv w hlt).mono ?_
    rintro e w' ⟨rfl, rfl⟩
    go_wp2_with fail
    go_ret3
    exact ⟨rfl, rfl⟩
  · rw [if_neg h0, Prod.mk.injEq, Prod.mk.injEq] at hv
    obtain ⟨rfl, rfl, rfl⟩ := hv
    have hb : (ue != 0) = true := by simpa using h0
    clear h0
    go_enter Try.func13, Try.ntmps13
    go_wp2_with fail
    refine (getuint_any ao n cap xs at_ w hx hat uv un ue Hu.out).mono ?_
    rintro e w' ⟨rfl, rfl⟩
    go_wp2_with fail
    go_ret3
    exact ⟨rfl, rfl⟩

set_option maxHeartbeats 400000 in
theorem int_any (ao : Option Addr) (n cap : Nat) (xs : List UInt8) (N : Int) (w : World) (base : Nat) (hown : w.ownsRow base 5 1 (.slice ao n cap) n (bytesC xs)) (hbase : base ≤ w.heap.size)
    (hN : in64 N) (hb : n + 10 ≤ 140737488355328) :
    Calls Try.prog 14 #[.slice ao n cap, .int .i64 N] w fun e w' => w.grownBy w' (Value.slice ao n cap).ownBlock ∧
      ∃ ao' n' cap', e = .returned (.slice ao' n' cap') ∧ w'.ownsRow base 5 1 (.slice ao' n' cap') n' (bytesC (xs ++ varint (foldN N))) := by
  go_enter Try.func14, Try.ntmps14
  go_wp2_with fail
  refine (folded_any N w hN).mono ?_
  rintro e w' ⟨rfl, rfl⟩
  go_wp2_with fail
  refine (uint_any ao n cap xs (foldN N) w base hown hbase (foldN_lt hN) hb).mono ?_
  rintro e w1 ⟨hg, ao1, n1, cap1, rfl, hown1⟩
  have H := Lib.hid (And.intro hg hown1)
  clear hg hown1 hown
  go_wp2_with fail
  go_ret
  exact ⟨H.out.1, ao1, n1, cap1, rfl, H.out.2⟩
end Go.Proofs.Ytmjoneiagfegdaa
