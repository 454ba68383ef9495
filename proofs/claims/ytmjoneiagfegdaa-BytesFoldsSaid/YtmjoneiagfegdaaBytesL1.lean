/-
  BytesWithin's walk: it tells true of every number and all bytes. No condition beyond the reach.
-/
import Derived.Test.YtmjoneiagfegdaaBytesA
set_option linter.unusedVariables false
namespace Go.Proofs.Ytmjoneiagfegdaa
open Go.RowKit Go.Am

theorem pow128 (k : Nat) : (2 : Nat) ^ (7 * k) = 128 ^ k := by rw [Nat.pow_mul]
theorem within (xs : List UInt8) (n k : Nat) (hn : n < 18446744073709551616) (hk : k < (varint n).length) :
    getU (xs ++ varint n) ((xs.length : Int) + (k : Int)) = (n / 2 ^ (7 * k), (xs.length : Int) + ((varint n).length : Int), 0) := by
  have hle := varint_le n
  have hd : (xs ++ varint n).drop (xs.length + k) = varint (n / 2 ^ (7 * k)) ++ [] := by
    rw [List.append_nil, List.drop_append, List.drop_eq_nil_of_le (by omega), List.nil_append, show xs.length + k - xs.length = k by omega]
    rw [pow128]
    unfold varint at hk ⊢
    rw [varF_drop 9 n k hk]
    have h1 : n / 128 ^ k < 128 ^ (9 - k + 1) := by
      have : n < 128 ^ k * 128 ^ (9 - k + 1) := by
        rw [← Nat.pow_add, show k + (9 - k + 1) = 10 by unfold varint at hle; omega]
        exact Nat.lt_trans hn (by decide)
      exact Nat.div_lt_of_lt_mul this
    refine (varF_more (9 - k) 9 _ h1 (by omega) ?_).symm
    by_cases h9 : k = 9
    · subst h9
      right
      exact Nat.div_lt_of_lt_mul (Nat.lt_of_lt_of_le hn (by decide))
    · left; unfold varint at hle; omega
  have hlen : (varint n).length = k + (varint (n / 2 ^ (7 * k))).length := by
    have := congrArg List.length hd
    simp at this
    omega
  have := getU_varint (xs := xs ++ varint n) (rest := []) (a := xs.length + k) (n := n / 2 ^ (7 * k)) hd (by simp; omega) (Nat.lt_of_le_of_lt (Nat.div_le_self _ _) hn)
  rw [Int.natCast_add] at this
  rw [this, hlen]
  simp [Int.add_assoc]
theorem getU_end (xs : List UInt8) : getU xs (xs.length : Int) = (0, 0, 11) := by
  unfold getU
  rw [if_neg (by omega)]
  simp [parse, numF]
theorem varF_ge : ∀ (f n : Nat), 1 < (varF f n).length → 128 ^ ((varF f n).length - 1) ≤ n
  | 0, n, h => by simp [varF] at h
  | f + 1, n, h => by
    unfold varF at h ⊢
    split
    · rename_i h1; rw [if_pos h1] at h; simp at h
    · rename_i h1
      rw [if_neg h1] at h
      have ih := varF_ge f (n / 128)
      have hp := varF_pos f (n / 128)
      simp only [List.length_cons]
      generalize (varF f (n / 128)).length = t at *
      by_cases ht : 1 < t
      · have := ih ht
        rw [show t + 1 - 1 = t - 1 + 1 by omega, Nat.pow_succ]
        omega
      · have : t = 1 := by omega
        subst this
        simp; omega
theorem within_top (n : Nat) : (decide (0 < n / 2 ^ (7 * (varint n).length - 7)) == (decide (0 < n) || decide (1 < (varint n).length))) = true := by
  have hp := varint_pos n
  have hg := varF_ge 9 n
  change 1 < (varint n).length → 128 ^ ((varint n).length - 1) ≤ n at hg
  generalize (varint n).length = t at *
  by_cases ht : 1 < t
  · have h1 : 0 < n / 2 ^ (7 * t - 7) := by
      rw [show 7 * t - 7 = 7 * (t - 1) by omega, pow128]
      exact Nat.div_pos (hg ht) (Nat.pow_pos (by decide))
    simp [h1, ht]
  · have : t = 1 := by omega
    subst this
    simp

set_option maxRecDepth 100000 in
set_option maxHeartbeats 2000000 in
theorem within_any (N : Nat) (ao : Option Addr) (m cap : Nat) (xs : List UInt8) (w : World) (hN : N < 18446744073709551616) (hx : Rd w 1 ao m cap (bytesC xs)) :
    Calls Try.prog 3 #[.int .u64 (N : Int), .slice ao m cap] w fun e w' => e = .returned (.bool true) ∧ Below w.heap.size w w' := by
  by_cases h100 : 100 < m
  · clear hx
    go_enter Try.func3, Try.ntmps3
    go_wp2_with fail
    refine (awake_any _).mono ?_
    rintro e w' ⟨rfl, hb⟩
    have Hb := Lib.hid hb; clear hb
    go_wp2_with fail
    go_ret
    exact ⟨rfl, Hb.out⟩
  · have Hl := Lib.hid hx.byteLen
    have hlc := hx.lecap
    have hlm := hx.lemax
    go_enter Try.func3, Try.ntmps3
    go_wp2_with (at_builtin; refine wpl_append el_u8 rfl (.tmp 18) (.tmp 19) rfl rfl (World.ownsRow_lit w #[] 0 (Nat.le_refl _) (by decide) rfl) rfl (hx.fresh (alc _ _)) (bytesC_one _) (by omega) (by simp) ?_)
    intro ao1 cap1 w1 hown1 hg1
    have Hb1 := Lib.hid ((alc w _).grown hg1 (by simp) (fun k hk => by simp [Value.ownBlock] at hk; omega))
    have Ho1 : Hid (w1.ownsRow w.heap.size 5 1 (.slice ao1 m cap1) m (bytesC xs)) := by show World.ownsRow _ _ _ _ _ _ _; simpa using hown1
    clear hown1 hg1 hx
    go_wp2_with fail
    refine (uint_any ao1 m cap1 xs N w1 w.heap.size Ho1.out Hb1.out.size hN (by omega)).mono ?_
    rintro e w2 ⟨hg2, ao2, n2, cap2, rfl, hown2⟩
    have Hb2 := Lib.hid (Hb1.out.grown hg2 Hb1.out.size (fun k hk => (Ho1.out.lt k hk).1))
    have Ho2 := Lib.hid hown2
    have hL1 := varint_pos N
    have hL2 := varint_le N
    obtain ⟨L, hL⟩ : ∃ L, (varint N).length = L := ⟨_, rfl⟩
    rw [hL] at hL1 hL2
    have hn2 : n2 = m + L := by
      have := (own_rd hown2).byteLen
      simp at this
      have := Hl.out
      omega
    subst hn2
    have HL := Lib.hid hL
    clear hL hg2 hown2
    have hmany : (m : Int) + (L : Int) - (m : Int) = (L : Int) := by omega
    go_wp2_with fail
    go_loop [35] (fun i => ∃ k : Nat, k ≤ L ∧ i = .int .i64 k) (fun i => L - (intOf i).toNat)
    case atStart => exact ⟨0, by omega, rfl⟩
    case round =>
      obtain ⟨k, hk, rfl⟩ := hrel
      by_cases hlt : k < L
      · obtain ⟨v, hv⟩ : ∃ v, N / 2 ^ (7 * k) = v := ⟨_, rfl⟩
        have Hu : Hid (getU (xs ++ varint N) ((m : Int) + (k : Int)) = (v, (m : Int) + (L : Int), 0)) := by
          show _ = _
          rw [← hv, ← HL.out, ← Hl.out]
          exact within xs N k hN (by rw [HL.out]; exact hlt)
        have hne : ((v : Int) != (N : Int) / 2 ^ (7 * k)) = false := by rw [← hv]; simp
        clear hv
        go_wp2_with fail
        refine (getuint_any ao2 (m + L) cap2 _ ((m : Int) + (k : Int)) w2 (own_rd Ho2.out) (by unfold in64; omega) v _ 0 Hu.out).mono ?_
        rintro e w' ⟨rfl, rfl⟩
        go_wp2_with fail
        go_round
        case rel => exact ⟨k + 1, by omega, by go_num⟩
        case measure => show L - ((k : Int) + 1).toNat < L - (k : Int).toNat; omega
      · have hke : k = L := by omega
        subst hke
        have Hu : Hid (getU (xs ++ varint N) ((m : Int) + (k : Int)) = (0, 0, 11)) := by
          show _ = _
          have := getU_end (xs ++ varint N)
          rw [List.length_append, HL.out, Hl.out, Int.natCast_add] at this
          exact this
        have htop := within_top N
        rw [HL.out] at htop
        clear hlt
        rcases Nat.eq_zero_or_pos N with hN0 | hN0
        · subst hN0
          have hk1 : k = 1 := by rw [← HL.out]; decide
          subst hk1
          clear htop
          go_wp2_with fail
          refine (getuint_any ao2 (m + 1) cap2 _ ((m : Int) + 1) w2 (own_rd Ho2.out) (by unfold in64; omega) 0 0 11 Hu.out).mono ?_
          rintro e w' ⟨rfl, rfl⟩
          go_wp2_with fail
          refine (awake_any _).mono ?_
          rintro e w3 ⟨rfl, hb3⟩
          have Hb3 := Lib.hid (bgo Hb2.out hb3)
          clear hb3
          go_wp2_with fail
          go_ret
          exact ⟨rfl, Hb3.out⟩
        · have hd : (0 : Int) < (N : Int) / 2 ^ (7 * k - 7) := by
            have : 0 < N / 2 ^ (7 * k - 7) := by simpa [hN0] using htop
            have h2 : ((N / 2 ^ (7 * k - 7) : Nat) : Int) = (N : Int) / 2 ^ (7 * k - 7) := by push_cast; rfl
            omega
          clear htop
          go_wp2_with fail
          refine (getuint_any ao2 (m + k) cap2 _ ((m : Int) + (k : Int)) w2 (own_rd Ho2.out) (by unfold in64; omega) 0 0 11 Hu.out).mono ?_
          rintro e w' ⟨rfl, rfl⟩
          go_wp2_with fail
          refine (awake_any _).mono ?_
          rintro e w3 ⟨rfl, hb3⟩
          have Hb3 := Lib.hid (bgo Hb2.out hb3)
          clear hb3
          go_wp2_with fail
          go_ret
          exact ⟨rfl, Hb3.out⟩
end Go.Proofs.Ytmjoneiagfegdaa
