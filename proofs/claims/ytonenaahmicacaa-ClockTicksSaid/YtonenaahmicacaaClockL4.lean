/-
  The law ClockTicks, walked: it returns true, whatever the clock, the two threads and the number of ticks. No condition.
-/
import Derived.Test.YtonenaahmicacaaClockA
import Derived.Deep.CutRange
import Derived.Deep.RegionWith
set_option linter.unusedVariables false
namespace Go.Proofs.Ytonenaahmicacaa
open Go.RowKit Go.Am

/-- each number from 0 to B -/
def small (B : Int) (xs : List Int) : Prop := ∀ i, 0 ≤ gi xs i ∧ gi xs i ≤ B
theorem small_gi {B : Int} {xs : List Int} (h : small B xs) (hB : B < 9223372036854775807) (s : Nat) (hs : s ≤ 63) (i : Nat) : gi (tickL xs s) i = gi xs i + if i = s then 1 else 0 := by
  rw [tickL_in (by omega) (by omega), gi_tickAt, Int.toNat_natCast]
  have := h s
  by_cases e : i = s
  · subst e; rw [if_pos ⟨rfl, by omega⟩, if_pos rfl]
  · rw [if_neg (by simp [e]), if_neg e]; omega
theorem small_tick {B : Int} {xs : List Int} (h : small B xs) (hB : B < 9223372036854775807) (s : Nat) (hs : s ≤ 63) : small (B + 1) (tickL xs s) := by
  intro i; rw [small_gi h hB s hs]; have := h i; split <;> omega
theorem tickL_len (xs : List Int) (s : Nat) (hs : s ≤ 63) : (tickL xs s).length = max xs.length (s + 1) := by rw [tickL_in (by omega) (by omega), tickAt_length, Int.toNat_natCast]
/-- j ticks -/
def tickN (xs : List Int) (s : Nat) : Nat → List Int
  | 0 => xs
  | j + 1 => tickL (tickN xs s j) s
theorem tickN_small {xs : List Int} (h : small 4611686018427387904 xs) (s : Nat) (hs : s ≤ 63) : ∀ j : Nat, j ≤ 20 → small (4611686018427387904 + j) (tickN xs s j) ∧ (∀ i, gi (tickN xs s j) i = gi xs i + if i = s then (j : Int) else 0) ∧ (tickN xs s j).length ≤ max xs.length 64
  | 0, _ => ⟨by simpa [tickN] using h, fun i => by simp [tickN], by simp [tickN]; omega⟩
  | j + 1, hj => by
    obtain ⟨h1, h2, h3⟩ := tickN_small h s hs j (by omega)
    refine ⟨?_, fun i => ?_, ?_⟩
    · have := small_tick h1 (by omega) s hs
      rw [show (4611686018427387904 + ((j + 1 : Nat) : Int)) = 4611686018427387904 + (j : Int) + 1 by omega]
      exact this
    · show gi (tickL (tickN xs s j) s) i = _
      rw [small_gi h1 (by omega) s hs, h2]
      split <;> omega
    · show (tickL (tickN xs s j) s).length ≤ _
      rw [tickL_len _ _ hs]; omega
theorem small_wf {B : Int} {xs : List Int} (h : small B xs) (hB : B ≤ 9223372036854775807) : wf64 xs := wf64_of_gi fun i => by have := h i; unfold in64; omega
theorem ticks_le {xs : List Int} (h : small 4611686018427387904 xs) (s t : Nat) (hs : s ≤ 63) (ht : t ≤ 63) : leqB (tickL (tickL xs s) t) (tickL (tickL xs t) s) = true := by
  rw [leqB_true]; intro i
  rw [small_gi (small_tick h (by omega) s hs) (by omega) t ht, small_gi h (by omega) s hs, small_gi (small_tick h (by omega) t ht) (by omega) s hs, small_gi h (by omega) t ht]
  omega
theorem ticks_a {xs : List Int} (h : small 4611686018427387904 xs) (s t : Nat) (hs : s ≤ 63) (ht : t ≤ 63) : leqB xs (joinL (tickL xs s) (tickL xs t)) = true := by
  rw [leqB_true]; intro i
  rw [gi_joinL, small_gi h (by omega) s hs, small_gi h (by omega) t ht]
  split <;> omega
theorem ticks_j {xs : List Int} (h : small 4611686018427387904 xs) (s t : Nat) (hs : s ≤ 63) (ht : t ≤ 63) : leqB (joinL (tickL xs s) (tickL xs t)) (tickL (tickL xs s) t) = true := by
  rw [leqB_true]; intro i
  rw [gi_joinL, small_gi (small_tick h (by omega) s hs) (by omega) t ht, small_gi h (by omega) s hs, small_gi h (by omega) t ht]
  split <;> split <;> omega
theorem ticks_x {xs : List Int} (h : small 4611686018427387904 xs) (s t : Nat) (hs : s ≤ 63) (ht : t ≤ 63) (hne : s ≠ t) : leqB (tickL (tickL xs s) t) (joinL (tickL xs s) (tickL xs t)) = true := by
  rw [leqB_true]; intro i
  rw [gi_joinL, small_gi (small_tick h (by omega) s hs) (by omega) t ht, small_gi h (by omega) s hs, small_gi h (by omega) t ht]
  split <;> split <;> omega

set_option maxRecDepth 100000 in
set_option maxHeartbeats 2000000 in
theorem ticks_any (ao : Option Addr) (n c1 : Nat) (xs : List Int) (a b nn : Int) (w : World) (hx : Rd w 1 ao n c1 (ints .i64 xs)) (ha : in64 a) (hb : in64 b) (hn0 : 0 ≤ nn) (hn1 : nn ≤ 255) :
    Calls Try.prog 6 #[.slice ao n c1, .agg #[.int .i64 a, .int .i64 b], .int .u8 nn] w fun e w' => e = .returned (.bool true) ∧ Below w.heap.size w w' := by
  by_cases hlong : 2000 < n
  · go_enter Try.func6, Try.ntmps6
    go_wp2_with fail
    refine (awake_any _).mono ?_
    rintro e v1 ⟨rfl, hb⟩
    have B1 := Lib.hid (bgo (bgo (brefl _) (alc _ _)) hb)
    clear hb
    go_wp2_with fail
    go_ret
    exact ⟨rfl, B1.out⟩
  · have hn : n ≤ 2000 := by omega
    clear hlong
    obtain ⟨a1, a2⟩ := ha
    obtain ⟨b1, b2⟩ := hb
    have hlx := Lib.hid hx.intLen
    have hl1 := hx.lecap
    have hl2 := hx.lemax
    go_enter Try.func6, Try.ntmps6
    go_wp2_with fail
    have hxa := hx.fresh (alc w (.cells #[.int .i64 a, .int .i64 b] 31))
    have hca : (w.alloc (.cells #[.int .i64 a, .int .i64 b] 31)).cell? ⟨w.heap.size, 0, none⟩ = some (.int .i64 a) := by simp
    have hcb : (w.alloc (.cells #[.int .i64 a, .int .i64 b] 31)).cell? ⟨w.heap.size, 1, none⟩ = some (.int .i64 b) := by simp
    have B0 := Lib.hid (alc w (.cells #[.int .i64 a, .int .i64 b] 31))
    generalize w.alloc (.cells #[.int .i64 a, .int .i64 b] 31) = v0 at *
    have hix := idx_run (P := Try.prog) hxa Try.underlying22 el_i64.sz .i64
    have hcx := hxa.intCell
    have X0 := Lib.hid hxa
    clear hxa hx
    go_loop [22] (fun i => ∃ k : Nat, k ≤ n ∧ i = .int .i64 k ∧ Hid (∀ j, j < k → 0 ≤ gi xs j ∧ gi xs j ≤ 4611686018427387903)) (fun i => n - (intOf i).toNat)
    case atStart => exact ⟨0, by omega, rfl, fun j h => absurd h (by omega)⟩
    case round =>
      obtain ⟨k, hk, rfl, hs⟩ := hrel
      by_cases hlt : k < n
      · have h3 : (4611686018427387904 ≤ gi xs k) ∨ (gi xs k < 4611686018427387904 ∧ gi xs k < 0) ∨ (gi xs k < 4611686018427387904 ∧ 0 ≤ gi xs k) := by omega
        rcases h3 with h3 | ⟨h3, h4⟩ | ⟨h3, h4⟩
        · go_wp2_with fail
          refine (awake_any _).mono ?_
          rintro e v1 ⟨rfl, hb⟩
          have B1 := Lib.hid (bgo (B0.out) hb)
          clear hb B0
          go_wp2_with fail
          go_ret
          exact ⟨rfl, B1.out⟩
        · go_wp2_with fail
          refine (awake_any _).mono ?_
          rintro e v1 ⟨rfl, hb⟩
          have B1 := Lib.hid (bgo (B0.out) hb)
          clear hb B0
          go_wp2_with fail
          go_ret
          exact ⟨rfl, B1.out⟩
        · go_wp2_with fail
          go_round
          case rel => exact ⟨k + 1, by omega, by go_num, fun j hj => by
            by_cases e : j = k
            · subst e; omega
            · exact hs.out j (by omega)⟩
          case measure => show n - ((k : Int) + 1).toNat < n - (k : Int).toNat; omega
      · have Hs : Hid (small 4611686018427387904 xs) := by
          intro j
          by_cases hj : j < n
          · have := hs.out j (by omega); omega
          · rw [gi_ge (by have := hlx.out; omega)]; omega
        clear hs hix hcx
        go_upto_region 9 with (fail)
        obtain ⟨s, hs⟩ := Int.eq_ofNat_of_zero_le (pickI_bd (x := a) (n := 64) (by omega)).1
        obtain ⟨t, ht⟩ := Int.eq_ofNat_of_zero_le (pickI_bd (x := b) (n := 64) (by omega)).1
        have hs1 : s ≤ 63 := by have := (pickI_bd (x := a) (n := 64) (by omega)).2; omega
        have ht1 : t ≤ 63 := by have := (pickI_bd (x := b) (n := 64) (by omega)).2; omega
        have Hst := Lib.hid (And.intro hs ht); clear hs ht
        go_cut [9, 10] from 34 to 39 (fun x y wx => x = .int .i64 (s : Int) ∧ y = .int .i64 (t : Int) ∧ ∃ m, wx = v0.drewN m)
        case first =>
          go_quiet ((first | (go_at_call_of 18 a; exact Calls.quiet_of_same ((pick_any a 64 _ (by omega) (by omega) a1 a2).mono fun _ _ ⟨he, hw⟩ => ⟨he, hw.symm⟩)) | (go_at_call_of 18 b; exact Calls.quiet_of_same ((pick_any b 64 _ (by omega) (by omega) b1 b2).mono fun _ _ ⟨he, hw⟩ => ⟨he, hw.symm⟩))))
          go_wp2_with fail
          go_meet
          exact ⟨by rw [Hst.out.1], by rw [Hst.out.2], nq, rfl⟩
        case rest =>
          obtain ⟨rfl, rfl, m, rfl⟩ := hcut
          have X1 := Lib.hid (X0.out.fresh (drn v0 m))
          have B1 : Hid (Below w.heap.size w (v0.drewN m)) := bgo B0.out (drn v0 m)
          generalize v0.drewN m = v1 at *
          clear hca hcb X0 B0
          have hsw : wf64 xs := small_wf Hs.out (by omega)
          have Hsw := Lib.hid hsw; clear hsw
          go_wp2_with fail
          refine (tick_any _ n c1 xs s _ (X1.out) Hsw.out (by omega)).mono ?_
          rintro e v2 ⟨hb, ao2, n2, cap2, rfl, hown⟩
          have B2 := Lib.hid (bgo (B1.out) hb)
          have X2 := Lib.hid (X1.out.fresh hb)
          have A2 := Lib.hid (own_rd hown)
          clear hb hown X1 B1
          have hn2 : n2 ≤ 2064 := by have := A2.out.intLen; have := hlx.out; rw [tickL_len _ _ hs1] at *; omega
          go_wp2_with fail
          refine (tick_any _ n2 _ (tickL xs s) t _ (A2.out) (wf64_tickL Hsw.out _) (by omega)).mono ?_
          rintro e v3 ⟨hb, ao3, n3, cap3, rfl, hown⟩
          have B3 := Lib.hid (bgo (B2.out) hb)
          have X3 := Lib.hid (X2.out.fresh hb)
          have P3 := Lib.hid (own_rd hown)
          clear hb hown X2 A2 B2
          go_wp2_with fail
          refine (tick_any _ n c1 xs t _ (X3.out) Hsw.out (by omega)).mono ?_
          rintro e v4 ⟨hb, ao4, n4, cap4, rfl, hown⟩
          have B4 := Lib.hid (bgo (B3.out) hb)
          have X4 := Lib.hid (X3.out.fresh hb)
          have P4 := Lib.hid (P3.out.fresh hb)
          have A4 := Lib.hid (own_rd hown)
          clear hb hown X3 P3 B3
          have hn4 : n4 ≤ 2064 := by have := A4.out.intLen; have := hlx.out; rw [tickL_len _ _ ht1] at *; omega
          go_wp2_with fail
          refine (tick_any _ n4 _ (tickL xs t) s _ (A4.out) (wf64_tickL Hsw.out _) (by omega)).mono ?_
          rintro e v5 ⟨hb, ao5, n5, cap5, rfl, hown⟩
          have B5 := Lib.hid (bgo (B4.out) hb)
          have X5 := Lib.hid (X4.out.fresh hb)
          have P5 := Lib.hid (P4.out.fresh hb)
          have Q5 := Lib.hid (own_rd hown)
          clear hb hown X4 P4 A4 B4
          go_wp2_with fail
          refine (leq_any _ _ _ _ _ _ _ _ _ (P5.out) (Q5.out) true (ticks_le Hs.out s t hs1 ht1)).mono ?_
          rintro e v6 ⟨rfl, hb⟩
          have B6 := Lib.hid (bgo (B5.out) hb)
          have X6 := Lib.hid (X5.out.fresh hb)
          have P6 := Lib.hid (P5.out.fresh hb)
          have Q6 := Lib.hid (Q5.out.fresh hb)
          clear hb X5 P5 Q5 B5
          go_wp2_with fail
          refine (leq_any _ _ _ _ _ _ _ _ _ (Q6.out) (P6.out) true (ticks_le Hs.out t s ht1 hs1)).mono ?_
          rintro e v7 ⟨rfl, hb⟩
          have B7 := Lib.hid (bgo (B6.out) hb)
          have X7 := Lib.hid (X6.out.fresh hb)
          have P7 := Lib.hid (P6.out.fresh hb)
          clear hb X6 P6 Q6 B6
          obtain ⟨K, hK⟩ := Int.eq_ofNat_of_zero_le (show 0 ≤ nn % 21 by omega)
          have hK1 : K ≤ 20 := by omega
          have HK := Lib.hid hK; clear hK
          go_upto_region 13 with (fail)
          go_cut [13] from 60 to 62 (fun x wx => x = .int .i64 (K : Int) ∧ v7 = wx)
          case first =>
            go_wp2_with fail
            go_meet
            exact ⟨by rw [HK.out], rfl⟩
          case rest =>
            obtain ⟨rfl, rfl⟩ := hcut
            go_wp2_with fail
            go_loopw [14, 65] (fun v i wr => ∃ j : Nat, j ≤ K ∧ i = .int .i64 j ∧ ∃ ao' n' cap', v = .slice ao' n' cap' ∧ Hid (Rd wr 1 ao' n' cap' (ints .i64 (tickN xs s j)) ∧ Below v7.heap.size v7 wr)) (fun _ i _ => K - (intOf i).toNat)
            case atStart => exact ⟨0, by omega, rfl, ao, n, c1, rfl, X7.out, brefl _⟩
            case round =>
              obtain ⟨j, hj, rfl, ao', n', cap', rfl, H⟩ := hrel
              by_cases hlt2 : j < K
              · have hts := tickN_small Hs.out s hs1 j (by omega)
                have Hts := Lib.hid hts; clear hts
                have hn' : n' ≤ 2064 := by have := H.out.1.intLen; have := Hts.out.2.2; have := hlx.out; omega
                go_wp2_with fail
                refine (tick_any _ n' _ (tickN xs s j) s _ H.out.1 (small_wf Hts.out.1 (by omega)) (by omega)).mono ?_
                rintro e v8 ⟨hb8, ao8, n8, cap8, rfl, hown8⟩
                have H8 : Hid (Rd v8 1 ao8 n8 cap8 (ints .i64 (tickN xs s (j + 1))) ∧ Below v7.heap.size v7 v8) := ⟨own_rd hown8, bgo H.out.2 hb8⟩
                clear hb8 hown8 H
                go_wp2_with fail
                go_roundw
                case rel => exact ⟨j + 1, by omega, by go_num, ao8, n8, cap8, rfl, H8⟩
                case measure => simp [intOf]; omega
              · have hjK : j = K := by omega
                subst hjK
                have Hts := Lib.hid (tickN_small Hs.out s hs1 j (by omega))
                have X8 := Lib.hid (X7.out.fresh H.out.2)
                have P8 := Lib.hid (P7.out.fresh H.out.2)
                have B8 := Lib.hid (bgo B7.out H.out.2)
                have U8 := Lib.hid H.out.1
                clear X7 P7 B7 H
                have hxs := Lib.hid (Hs.out s)
                go_wp2_with fail
                refine (at_any _ _ _ (tickN xs s j) s _ (U8.out)).mono ?_
                rintro e v9 ⟨rfl, rfl⟩
                go_wp2_with fail
                refine (at_any _ n c1 xs s _ (X8.out)).mono ?_
                rintro e v9 ⟨rfl, rfl⟩
                have hv : gi (tickN xs s j) s = gi xs s + (j : Int) := by rw [Hts.out.2.1]; simp
                have hv1 : (gi (tickN xs s j) s != gi xs s + (j : Int)) = false := by rw [hv]; simp
                obtain ⟨hx1, hx2⟩ := hxs.out
                clear hv hxs U8
                go_wp2_with fail
                refine (tick_any _ n c1 xs s _ (X8.out) Hsw.out (by omega)).mono ?_
                rintro e v9 ⟨hb, ao9, n9, cap9, rfl, hown⟩
                have B9 := Lib.hid (bgo (B8.out) hb)
                have X9 := Lib.hid (X8.out.fresh hb)
                have P9 := Lib.hid (P8.out.fresh hb)
                have A9 := Lib.hid (own_rd hown)
                clear hb hown X8 P8 B8
                have hn9 : n9 ≤ 2064 := by have := A9.out.intLen; have := hlx.out; rw [tickL_len _ _ hs1] at *; omega
                clear hv1 hx1 hx2
                go_wp2_with fail
                refine (tick_any _ n c1 xs t _ (X9.out) Hsw.out (by omega)).mono ?_
                rintro e v10 ⟨hb, ao10, n10, cap10, rfl, hown⟩
                have B10 := Lib.hid (bgo (B9.out) hb)
                have X10 := Lib.hid (X9.out.fresh hb)
                have P10 := Lib.hid (P9.out.fresh hb)
                have A10 := Lib.hid (A9.out.fresh hb)
                have D10 := Lib.hid (own_rd hown)
                clear hb hown X9 P9 A9 B9
                have hn10 : n10 ≤ 2064 := by have := D10.out.intLen; have := hlx.out; rw [tickL_len _ _ ht1] at *; omega
                go_wp2_with fail
                refine (join_any _ _ n9 n10 _ _ (tickL xs s) (tickL xs t) _ (A10.out) (D10.out) (by omega)).mono ?_
                rintro e v11 ⟨hb, ao11, n11, cap11, rfl, hown⟩
                have B11 := Lib.hid (bgo (B10.out) hb)
                have X11 := Lib.hid (X10.out.fresh hb)
                have P11 := Lib.hid (P10.out.fresh hb)
                have J11 := Lib.hid (own_rd hown)
                clear hb hown X10 P10 A10 D10 B10
                go_wp2_with fail
                refine (leq_any _ _ _ _ _ _ xs _ _ (X11.out) (J11.out) true (ticks_a Hs.out s t hs1 ht1)).mono ?_
                rintro e v12 ⟨rfl, hb⟩
                have B12 := Lib.hid (bgo (B11.out) hb)
                have P12 := Lib.hid (P11.out.fresh hb)
                have J12 := Lib.hid (J11.out.fresh hb)
                clear hb X11 P11 J11 B11
                go_wp2_with fail
                refine (leq_any _ _ _ _ _ _ _ _ _ (J12.out) (P12.out) true (ticks_j Hs.out s t hs1 ht1)).mono ?_
                rintro e v13 ⟨rfl, hb⟩
                have B13 := Lib.hid (bgo (B12.out) hb)
                have P13 := Lib.hid (P12.out.fresh hb)
                have J13 := Lib.hid (J12.out.fresh hb)
                clear hb P12 J12 B12
                by_cases hst2 : s = t
                · have hq : ((s : Int) == (t : Int)) = true := by simp; omega
                  clear hst2
                  go_wp2_with fail
                  refine (awake_any _).mono ?_
                  rintro e v14 ⟨rfl, hb⟩
                  have B14 := Lib.hid (bgo (B13.out) hb)
                  have P14 := Lib.hid (P13.out.fresh hb)
                  have J14 := Lib.hid (J13.out.fresh hb)
                  clear hb P13 J13 B13
                  go_wp2_with fail
                  go_ret
                  exact ⟨rfl, B14.out⟩
                · have hq : ((s : Int) == (t : Int)) = false := by simp; omega
                  have Hne := Lib.hid hst2; clear hst2
                  go_wp2_with fail
                  refine (leq_any _ _ _ _ _ _ _ _ _ (P13.out) (J13.out) true (ticks_x Hs.out s t hs1 ht1 Hne.out)).mono ?_
                  rintro e v14 ⟨rfl, hb⟩
                  have B14 := Lib.hid (bgo (B13.out) hb)
                  have P14 := Lib.hid (P13.out.fresh hb)
                  have J14 := Lib.hid (J13.out.fresh hb)
                  clear hb P13 J13 B13
                  go_wp2_with fail
                  refine (awake_any _).mono ?_
                  rintro e v15 ⟨rfl, hb⟩
                  have B15 := Lib.hid (bgo (B14.out) hb)
                  have P15 := Lib.hid (P14.out.fresh hb)
                  have J15 := Lib.hid (J14.out.fresh hb)
                  clear hb P14 J14 B14
                  go_wp2_with fail
                  go_ret
                  exact ⟨rfl, B15.out⟩
end Go.Proofs.Ytonenaahmicacaa
