/-
  BytesFolds's walk: it tells true of all numbers. No condition.
-/
import Derived.Test.YtmjoneiagfegdaaBytesL1
import Derived.Deep.DeepCutAuto
import Derived.Deep.CutRange
set_option linter.unusedVariables false
namespace Go.Proofs.Ytmjoneiagfegdaa
open Go.RowKit Go.Am

theorem getU_fold (n : Nat) (h : n < 18446744073709551616) : getU (varint n) 0 = (n, ((varint n).length : Int), 0) := by
  have h1 := getU_varint (xs := varint n) (rest := []) (a := 0) (n := n) (by simp) (by omega) h
  rw [Int.natCast_zero] at h1
  rw [h1]; simp
theorem getI_open (n : Nat) (h : n < 18446744073709551616) : getI (varint n) 0 = (openI n, ((varint n).length : Int), 0) := by
  unfold getI; rw [getU_fold n h]; simp
theorem foldN_inj {a b : Int} (h : foldN a = foldN b) : a = b := by rw [← openI_foldN a, ← openI_foldN b, h]

set_option maxHeartbeats 400000 in
theorem far_any (z : Int) (w : World) (hz : in64 z) : Calls Try.prog 15 #[.int .i64 z] w fun e w' => e = .returned (.int .u64 ((foldN z / 2 : Nat) : Int)) ∧ w = w' := by
  unfold in64 at hz
  by_cases h0 : z < 0
  · have hv : -(z + 1) = ((foldN z / 2 : Nat) : Int) := by unfold foldN; rw [if_neg (by omega)]; omega
    have e1 : wrap64 (z + 1) = z + 1 := by unfold wrap64; omega
    have e2 : wrap64 (-(z + 1)) = -(z + 1) := by unfold wrap64; omega
    go_enter Try.func15, Try.ntmps15
    go_wp2_with fail
    go_ret
    exact ⟨by first | rfl | (show Ending.returned (.int .u64 (wrap64 (-(z + 1)))) = _; rw [e2, hv]) | (trace_state; fail), rfl⟩
  · have hv : ((foldN z / 2 : Nat) : Int) = z := by unfold foldN; rw [if_pos (by omega)]; omega
    have h0' : decide (z < 0) = false := by simpa using h0
    go_enter Try.func15, Try.ntmps15
    go_wp2_with fail
    go_ret
    exact ⟨rfl, rfl⟩

theorem and1_u64 (x : Nat) (h : x < 18446744073709551616) : bits .and .u64 (x : Int) 1 = ((x % 2 : Nat) : Int) := by
  have := u64_and_nat x 1 h (by decide)
  rw [nat_mask1] at this
  exact this

set_option maxRecDepth 100000 in
set_option maxHeartbeats 2000000 in
theorem folds_law (N : Nat) (a b : Int) (w : World) (hN : N < 18446744073709551616) (ha : in64 a) (hb : in64 b) :
    Calls Try.prog 4 #[.int .u64 (N : Int), .int .i64 a, .int .i64 b] w fun e w' => e = .returned (.bool true) ∧ Below w.heap.size w w' := by
  have hoL := in64_openI hN
  have hfo := foldN_openI N
  obtain ⟨X, hX⟩ : ∃ X, openI N = X := ⟨_, rfl⟩
  rw [hX] at hoL hfo
  obtain ⟨L, hL⟩ : ∃ L, (varint N).length = L := ⟨_, rfl⟩
  have hL2 := varint_le N
  have Hgi : Hid (getI (varint N) 0 = (X, (L : Int), 0)) := by show _ = _; rw [getI_open N hN, hX, hL]
  rw [hL] at hL2
  have HL := Lib.hid hL
  have Hfo := Lib.hid hfo
  have HX := Lib.hid hX
  have hbeq : (varint N == varint N) = true := by simp
  clear hL hfo hX
  go_enter Try.func4, Try.ntmps4
  go_wp2_with fail
  refine (uint_any none 0 0 [] N w w.heap.size (World.ownsRow_nil _ _ _ _) (Nat.le_refl _) hN (by omega)).mono ?_
  rintro e w1 ⟨hg1, ao1, n1, cap1, rfl, hown1⟩
  rw [List.nil_append] at hown1
  have Ho1 := Lib.hid hown1
  have B1 := Lib.hid (gb_to hg1 (Nat.le_refl _) (by intro b h; cases h))
  clear hg1 hown1
  go_wp2_with fail
  refine (getint_any ao1 n1 cap1 _ 0 w1 (own_rd Ho1.out) (by unfold in64; omega) X L 0 Hgi.out).mono ?_
  rintro e w' ⟨rfl, rfl⟩
  go_upto_region 2 with (fail)
  go_cut [41] from 24 to 41 (fun s wx => s = .bool false ∧ Hid (Below w.heap.size w wx))
  case first =>
    go_region_held (fun w' => Below w.heap.size w w') (first | assumption | exact bgo B1.out (drw _) | (refine bgo ?_ (gb_to hgU (Nat.le_refl _) (by intro b h; cases h)); assumption) | (refine bgo ?_ (gb_to hgI (Nat.le_refl _) (by intro b h; cases h)); assumption)) ((first
    | (go_at_call 11; refine (uint_any none 0 0 [] N _ _ (World.ownsRow_nil _ _ _ _) (Nat.le_refl _) hN (by omega)).mono ?_; rintro e wU ⟨hgU, aoU, nU, capU, rfl, hownU⟩; rw [List.nil_append] at hownU; have HU := Lib.hid (own_rd hownU); obtain rfl : L = nU := HL.out.symm.trans HU.out.byteLen; have hsU := strB Try.underlying23 Try.underlying5 Try.underlying9 HU.out; try (have hsI2 := strB Try.underlying23 Try.underlying5 Try.underlying9 (HI.out.grown hgU (by intro _ h; cases h))))
    | (go_at_call 14; refine (int_any none 0 0 [] X _ _ (World.ownsRow_nil _ _ _ _) (Nat.le_refl _) hoL (by omega)).mono ?_; rintro e wI ⟨hgI, aoI, nI, capI, rfl, hownI⟩; rw [List.nil_append, Hfo.out] at hownI; have HI := Lib.hid (own_rd hownI); have hsI := strB Try.underlying23 Try.underlying5 Try.underlying9 HI.out; try (have hsU2 := strB Try.underlying23 Try.underlying5 Try.underlying9 (HU.out.grown hgI (by intro _ h; cases h))))))
    all_goals (have BU : Hid (Below w.heap.size w wU) := by (show Below _ _ _; assumption))
    all_goals (go_wp2_with fail; go_meet)
    all_goals (case rel => exact ⟨rfl, BU⟩)
  case rest =>
    obtain ⟨rfl, Hc⟩ := hcut
    clear Ho1 B1 Hgi
    obtain ⟨p, hp⟩ : ∃ p, foldN a = p := ⟨_, rfl⟩
    obtain ⟨r, hr⟩ : ∃ r, foldN b = r := ⟨_, rfl⟩
    have Hga : Hid (getU (varint (foldN a)) 0 = (p, ((varint (foldN a)).length : Int), 0)) := by show _ = _; rw [getU_fold _ (foldN_lt ha), hp]
    have Hgb : Hid (getU (varint (foldN b)) 0 = (r, ((varint (foldN b)).length : Int), 0)) := by show _ = _; rw [getU_fold _ (foldN_lt hb), hr]
    have Hfa := Lib.hid (far_any a · ha)
    have Hfb := Lib.hid (far_any b · hb)
    have Hab : Hid (p = r ↔ a = b) := ⟨fun h => foldN_inj (by rw [hp, hr, h]), fun h => by rw [← hp, ← hr, h]⟩
    rw [hp] at Hfa
    rw [hr] at Hfb
    have hpl := foldN_lt ha
    have hrl := foldN_lt hb
    rw [hp] at hpl
    rw [hr] at hrl
    obtain ⟨p2, hp2⟩ : ∃ p2, p / 2 = p2 := ⟨_, rfl⟩
    obtain ⟨r2, hr2⟩ : ∃ r2, r / 2 = r2 := ⟨_, rfl⟩
    rw [hp2] at Hfa
    rw [hr2] at Hfb
    have Hpr : Hid (¬ r2 ≤ p2 → p < r) := by intro h; omega
    clear hp hr hp2 hr2
    have hxq : (N % 2 = 0 ∧ X = ((N / 2 : Nat) : Int)) ∨ (N % 2 = 1 ∧ X = -((N / 2 : Nat) : Int) - 1) := by
      rw [← HX.out]; unfold openI; split <;> omega
    clear hoL Hfo HX hbeq
    have hand := and1_u64 N hN
    obtain ⟨q, hq⟩ : ∃ q, N / 2 = q := ⟨_, rfl⟩
    rw [hq] at hxq
    have hq2 : (N : Int) / 2 = (q : Int) := by omega
    have hqb : q < 9223372036854775808 := by omega
    go_upto_region 4 with (fail)
    go_cut [71] from 42 to 71 (fun s wx => s = .bool false ∧ wc = wx)
    case first =>
      rcases hxq with ⟨hm, rfl⟩ | ⟨hm, rfl⟩
      · have hm2 : (N : Int) % 2 = 0 := by omega
        have hn : decide ((q : Int) < 0) = false := by simp
        clear hm hq
        go_wp2_with fail
        go_meet
        case rel => exact ⟨rfl, rfl⟩
      · have hm2 : (N : Int) % 2 = 1 := by omega
        have hn : -(q : Int) - 1 < 0 := by omega
        have hn2 : decide (0 ≤ -(q : Int) - 1) = false := by simp; omega
        clear hm hq
        go_wp2_with fail
        go_meet
        case rel => exact ⟨rfl, rfl⟩
    case rest =>
      obtain ⟨rfl, rfl⟩ := hcut
      clear hxq hand hq hq2 hqb
      go_wp2_with fail
      refine (int_any none 0 0 [] a wc wc.heap.size (World.ownsRow_nil _ _ _ _) (Nat.le_refl _) ha (by omega)).mono ?_
      rintro e w3 ⟨hg3, ao3, n3, cap3, rfl, hown3⟩
      rw [List.nil_append] at hown3
      have Ho3 := Lib.hid hown3
      have B3 := Lib.hid (bgo Hc.out (gb_to hg3 (Nat.le_refl _) (by intro b h; cases h)))
      clear hg3 hown3
      go_wp2_with fail
      refine (getuint_any ao3 n3 cap3 _ 0 w3 (own_rd Ho3.out) (by unfold in64; omega) p _ 0 Hga.out).mono ?_
      rintro e w' ⟨rfl, rfl⟩
      go_wp2_with fail
      refine (int_any none 0 0 [] b w3 w3.heap.size (World.ownsRow_nil _ _ _ _) (Nat.le_refl _) hb (by omega)).mono ?_
      rintro e w4 ⟨hg4, ao4, n4, cap4, rfl, hown4⟩
      rw [List.nil_append] at hown4
      have Ho4 := Lib.hid hown4
      have B4 := Lib.hid (bgo B3.out (gb_to hg4 (Nat.le_refl _) (by intro b h; cases h)))
      clear hg4 hown4 Ho3
      go_wp2_with fail
      refine (getuint_any ao4 n4 cap4 _ 0 w4 (own_rd Ho4.out) (by unfold in64; omega) r _ 0 Hgb.out).mono ?_
      rintro e w' ⟨rfl, rfl⟩
      clear Hga Hgb Ho4
      by_cases hpr : p = r
      · have hab := Hab.out.1 hpr
        subst hpr
        subst hab
        have hle : (r2 : Int) ≤ (p2 : Int) := by
          by_cases h : r2 ≤ p2
          · omega
          · have := Hpr.out h; omega
        clear Hab Hpr
        go_wp2_with fail
        refine (Hfa.out _).mono ?_
        rintro e w' ⟨rfl, rfl⟩
        go_wp2_with fail
        refine (Hfb.out _).mono ?_
        rintro e w' ⟨rfl, rfl⟩
        go_wp2_with fail
        refine (awake_any _).mono ?_
        rintro e w5 ⟨rfl, hb5⟩
        have B5 := Lib.hid (bgo B4.out hb5)
        clear hb5
        go_wp2_with fail
        go_ret
        exact ⟨rfl, B5.out⟩
      · have h1 : ((p : Int) == (r : Int)) = false := by simp; omega
        have h2 : (a == b) = false := by simp; intro h; exact hpr (Hab.out.2 h)
        clear Hab hpr
        by_cases h : r2 ≤ p2
        · have hle : (r2 : Int) ≤ (p2 : Int) := by omega
          clear Hpr h
          go_wp2_with fail
          refine (Hfa.out _).mono ?_
          rintro e w' ⟨rfl, rfl⟩
          go_wp2_with fail
          refine (Hfb.out _).mono ?_
          rintro e w' ⟨rfl, rfl⟩
          go_wp2_with fail
          refine (awake_any _).mono ?_
          rintro e w5 ⟨rfl, hb5⟩
          have B5 := Lib.hid (bgo B4.out hb5)
          clear hb5
          go_wp2_with fail
          go_ret
          exact ⟨rfl, B5.out⟩
        · have hle : decide ((r2 : Int) ≤ (p2 : Int)) = false := by simp; omega
          have hlt : (p : Int) < (r : Int) := by have := Hpr.out h; omega
          have hlt2 : (p2 : Int) < (r2 : Int) := by omega
          clear Hpr h
          go_wp2_with fail
          refine (Hfa.out _).mono ?_
          rintro e w' ⟨rfl, rfl⟩
          go_wp2_with fail
          refine (Hfb.out _).mono ?_
          rintro e w' ⟨rfl, rfl⟩
          go_wp2_with fail
          refine (awake_any _).mono ?_
          rintro e w5 ⟨rfl, hb5⟩
          have B5 := Lib.hid (bgo B4.out hb5)
          clear hb5
          go_wp2_with fail
          go_ret
          exact ⟨rfl, B5.out⟩
end Go.Proofs.Ytmjoneiagfegdaa
