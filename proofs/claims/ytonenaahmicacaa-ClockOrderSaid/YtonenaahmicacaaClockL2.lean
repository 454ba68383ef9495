/-
  The law ClockOrder, walked: it returns true, whatever the three clocks. Condition: each clock's bytes are within the form's own reach.
-/
import Derived.Test.YtonenaahmicacaaClockL3
import Derived.Deep.CutRange
import Derived.StillTailTactics
import Derived.IntWalk
set_option linter.unusedVariables false
namespace Go.Proofs.Ytonenaahmicacaa
open Go.RowKit Go.Am

theorem ord_left (a b : List Int) : leqB a (joinL a b) = true := by rw [leqB_true]; intro i; rw [gi_joinL]; omega
theorem ord_right (a b : List Int) : leqB b (joinL a b) = true := by rw [leqB_true]; intro i; rw [gi_joinL]; omega
theorem ord_comm (a b : List Int) : joinL a b = joinL b a := by
  apply ext_gi
  · rw [joinL_length, joinL_length]; omega
  · intro i _; rw [gi_joinL, gi_joinL]; omega
theorem ord_assoc (a b c : List Int) : joinL (joinL a b) c = joinL a (joinL b c) := by
  apply ext_gi
  · rw [joinL_length, joinL_length, joinL_length, joinL_length]; omega
  · intro i _; rw [gi_joinL, gi_joinL, gi_joinL, gi_joinL]; omega
theorem ord_least {a b c : List Int} (h1 : leqB a c = true) (h2 : leqB b c = true) : leqB (joinL a b) c = true := by
  rw [leqB_true] at *; intro i; have := h1 i; have := h2 i; rw [gi_joinL]; omega
theorem ord_trans {a b c : List Int} (h1 : leqB a b = true) (h2 : leqB b c = true) : leqB a c = true := by
  rw [leqB_true] at *; intro i; have := h1 i; have := h2 i; omega
theorem ord_refl (a : List Int) : leqB a a = true := by rw [leqB_true]; intro i; omega

set_option maxRecDepth 100000 in
set_option maxHeartbeats 2000000 in
theorem order_any (ao bo co : Option Addr) (n m l c1 c2 c3 : Nat) (xs ys zs : List Int) (w : World) (hx : Rd w 1 ao n c1 (ints .i64 xs)) (hy : Rd w 1 bo m c2 (ints .i64 ys)) (hz : Rd w 1 co l c3 (ints .i64 zs))
    (hwx : wf64 xs) (h1 : n * 8 ≤ 140737488351232) (h2 : m * 8 ≤ 140737488351232) (h3 : l * 8 ≤ 140737488351232) :
    Calls Try.prog 4 #[.slice ao n c1, .slice bo m c2, .slice co l c3] w fun e w' => e = .returned (.bool true) ∧ Below w.heap.size w w' := by
  by_cases hlong : 6000 < n + m + l
  · go_enter Try.func4, Try.ntmps4
    go_wp2_with fail
    refine (awake_any _).mono ?_
    rintro e v1 ⟨rfl, hb⟩
    have B1 := Lib.hid (bgo (brefl _) hb)
    clear hb
    go_wp2_with fail
    go_ret
    exact ⟨rfl, B1.out⟩
  · have hn : n + m + l ≤ 6000 := by omega
    clear hlong h1 h2 h3
    have hlx := Lib.hid hx.intLen
    have hly := Lib.hid hy.intLen
    have hlz := Lib.hid hz.intLen
    go_enter Try.func4, Try.ntmps4
    go_wp2_with fail
    refine (join_any _ _ n m c1 c2 xs ys _ ((hx)) ((hy)) (by omega)).mono ?_
    rintro e v1 ⟨hb, ao1, n1, cap1, rfl, hown⟩
    have B1 := Lib.hid (bgo (brefl _) hb)
    have J1 := Lib.hid (own_rd hown)
    clear hb hown
    have hu : n1 = max n m := by have := J1.out.intLen; have := hlx.out; have := hly.out; rw [joinL_length] at *; omega
    have hu2 : n1 ≤ 6000 := by omega
    clear hu
    go_upto_region 4 with (fail)
    go_cut [57] from 24 to 57 (fun s wx => s = .bool false ∧ Hid (Below w.heap.size w wx ∧ Rd wx 1 ao1 n1 cap1 (ints .i64 (joinL xs ys))))
    case first =>
      cases hac : leqB xs zs
      · have Hac := Lib.hid hac; clear hac
        go_wp2_with fail
        refine (leq_any _ _ _ _ _ _ xs _ _ ((hx.fresh B1.out)) (J1.out) true (ord_left _ _)).mono ?_
        rintro e v2 ⟨rfl, hb⟩
        have B2 := Lib.hid (bgo (B1.out) hb)
        have J2 := Lib.hid (J1.out.fresh hb)
        clear hb J1 B1
        go_wp2_with fail
        refine (leq_any _ _ _ _ _ _ ys _ _ ((hy.fresh B2.out)) (J2.out) true (ord_right _ _)).mono ?_
        rintro e v3 ⟨rfl, hb⟩
        have B3 := Lib.hid (bgo (B2.out) hb)
        have J3 := Lib.hid (J2.out.fresh hb)
        clear hb J2 B2
        go_wp2_with fail
        refine (join_any _ _ m n c2 c1 ys xs _ ((hy.fresh B3.out)) ((hx.fresh B3.out)) (by omega)).mono ?_
        rintro e v4 ⟨hb, ao4, n4, cap4, rfl, hown⟩
        have B4 := Lib.hid (bgo (B3.out) hb)
        have J4 := Lib.hid (J3.out.fresh hb)
        have R4 := Lib.hid (own_rd hown)
        clear hb hown J3 B3
        go_wp2_with fail
        refine (same_b _ _ _ _ _ _ _ _ _ (J4.out) (R4.out) true (by simp [ord_comm])).mono ?_
        rintro e v5 ⟨rfl, hb⟩
        have B5 := Lib.hid (bgo (B4.out) hb)
        have J5 := Lib.hid (J4.out.fresh hb)
        clear hb J4 R4 B4
        go_wp2_with fail
        refine (leq_any _ _ _ _ _ _ xs zs _ ((hx.fresh B5.out)) ((hz.fresh B5.out)) false Hac.out).mono ?_
        rintro e v6 ⟨rfl, hb⟩
        have B6 := Lib.hid (bgo (B5.out) hb)
        have J6 := Lib.hid (J5.out.fresh hb)
        clear hb J5 B5
        go_wp2_with fail
        go_meet
        exact ⟨rfl, B6.out, J6.out⟩
      · have Hac := Lib.hid hac; clear hac
        cases hbc : leqB ys zs
        · have Hbc := Lib.hid hbc; clear hbc
          go_wp2_with fail
          refine (leq_any _ _ _ _ _ _ xs _ _ ((hx.fresh B1.out)) (J1.out) true (ord_left _ _)).mono ?_
          rintro e v2 ⟨rfl, hb⟩
          have B2 := Lib.hid (bgo (B1.out) hb)
          have J2 := Lib.hid (J1.out.fresh hb)
          clear hb J1 B1
          go_wp2_with fail
          refine (leq_any _ _ _ _ _ _ ys _ _ ((hy.fresh B2.out)) (J2.out) true (ord_right _ _)).mono ?_
          rintro e v3 ⟨rfl, hb⟩
          have B3 := Lib.hid (bgo (B2.out) hb)
          have J3 := Lib.hid (J2.out.fresh hb)
          clear hb J2 B2
          go_wp2_with fail
          refine (join_any _ _ m n c2 c1 ys xs _ ((hy.fresh B3.out)) ((hx.fresh B3.out)) (by omega)).mono ?_
          rintro e v4 ⟨hb, ao4, n4, cap4, rfl, hown⟩
          have B4 := Lib.hid (bgo (B3.out) hb)
          have J4 := Lib.hid (J3.out.fresh hb)
          have R4 := Lib.hid (own_rd hown)
          clear hb hown J3 B3
          go_wp2_with fail
          refine (same_b _ _ _ _ _ _ _ _ _ (J4.out) (R4.out) true (by simp [ord_comm])).mono ?_
          rintro e v5 ⟨rfl, hb⟩
          have B5 := Lib.hid (bgo (B4.out) hb)
          have J5 := Lib.hid (J4.out.fresh hb)
          clear hb J4 R4 B4
          go_wp2_with fail
          refine (leq_any _ _ _ _ _ _ xs zs _ ((hx.fresh B5.out)) ((hz.fresh B5.out)) true Hac.out).mono ?_
          rintro e v6 ⟨rfl, hb⟩
          have B6 := Lib.hid (bgo (B5.out) hb)
          have J6 := Lib.hid (J5.out.fresh hb)
          clear hb J5 B5
          go_wp2_with fail
          refine (leq_any _ _ _ _ _ _ ys zs _ ((hy.fresh B6.out)) ((hz.fresh B6.out)) false Hbc.out).mono ?_
          rintro e v7 ⟨rfl, hb⟩
          have B7 := Lib.hid (bgo (B6.out) hb)
          have J7 := Lib.hid (J6.out.fresh hb)
          clear hb J6 B6
          go_wp2_with fail
          go_meet
          exact ⟨rfl, B7.out, J7.out⟩
        · have Hbc := Lib.hid hbc; clear hbc
          go_wp2_with fail
          refine (leq_any _ _ _ _ _ _ xs _ _ ((hx.fresh B1.out)) (J1.out) true (ord_left _ _)).mono ?_
          rintro e v2 ⟨rfl, hb⟩
          have B2 := Lib.hid (bgo (B1.out) hb)
          have J2 := Lib.hid (J1.out.fresh hb)
          clear hb J1 B1
          go_wp2_with fail
          refine (leq_any _ _ _ _ _ _ ys _ _ ((hy.fresh B2.out)) (J2.out) true (ord_right _ _)).mono ?_
          rintro e v3 ⟨rfl, hb⟩
          have B3 := Lib.hid (bgo (B2.out) hb)
          have J3 := Lib.hid (J2.out.fresh hb)
          clear hb J2 B2
          go_wp2_with fail
          refine (join_any _ _ m n c2 c1 ys xs _ ((hy.fresh B3.out)) ((hx.fresh B3.out)) (by omega)).mono ?_
          rintro e v4 ⟨hb, ao4, n4, cap4, rfl, hown⟩
          have B4 := Lib.hid (bgo (B3.out) hb)
          have J4 := Lib.hid (J3.out.fresh hb)
          have R4 := Lib.hid (own_rd hown)
          clear hb hown J3 B3
          go_wp2_with fail
          refine (same_b _ _ _ _ _ _ _ _ _ (J4.out) (R4.out) true (by simp [ord_comm])).mono ?_
          rintro e v5 ⟨rfl, hb⟩
          have B5 := Lib.hid (bgo (B4.out) hb)
          have J5 := Lib.hid (J4.out.fresh hb)
          clear hb J4 R4 B4
          go_wp2_with fail
          refine (leq_any _ _ _ _ _ _ xs zs _ ((hx.fresh B5.out)) ((hz.fresh B5.out)) true Hac.out).mono ?_
          rintro e v6 ⟨rfl, hb⟩
          have B6 := Lib.hid (bgo (B5.out) hb)
          have J6 := Lib.hid (J5.out.fresh hb)
          clear hb J5 B5
          go_wp2_with fail
          refine (leq_any _ _ _ _ _ _ ys zs _ ((hy.fresh B6.out)) ((hz.fresh B6.out)) true Hbc.out).mono ?_
          rintro e v7 ⟨rfl, hb⟩
          have B7 := Lib.hid (bgo (B6.out) hb)
          have J7 := Lib.hid (J6.out.fresh hb)
          clear hb J6 B6
          go_wp2_with fail
          refine (leq_any _ _ _ _ _ _ _ zs _ (J7.out) ((hz.fresh B7.out)) true (ord_least Hac.out Hbc.out)).mono ?_
          rintro e v8 ⟨rfl, hb⟩
          have B8 := Lib.hid (bgo (B7.out) hb)
          have J8 := Lib.hid (J7.out.fresh hb)
          clear hb J7 B7
          go_wp2_with fail
          go_meet
          exact ⟨rfl, B8.out, J8.out⟩
    case rest =>
      obtain ⟨rfl, H⟩ := hcut
      clear J1 B1
      have B1 := Lib.hid H.out.1
      have J1 := Lib.hid H.out.2
      clear H
      go_upto_region 6 with (fail)
      go_cut [89] from 58 to 89 (fun s wx => s = .bool false ∧ Hid (Below w.heap.size w wx))
      case first =>
        cases hab : leqB xs ys
        · have Hab := Lib.hid hab; clear hab
          go_wp2_with fail
          refine (join_any _ _ _ l _ c3 _ zs _ (J1.out) ((hz.fresh B1.out)) (by omega)).mono ?_
          rintro e v2 ⟨hb, ao2, n2, cap2, rfl, hown⟩
          have B2 := Lib.hid (bgo (B1.out) hb)
          have J2 := Lib.hid (J1.out.fresh hb)
          have R2 := Lib.hid (own_rd hown)
          clear hb hown J1 B1
          go_wp2_with fail
          refine (join_any _ _ m l c2 c3 ys zs _ ((hy.fresh B2.out)) ((hz.fresh B2.out)) (by omega)).mono ?_
          rintro e v3 ⟨hb, ao3, n3, cap3, rfl, hown⟩
          have B3 := Lib.hid (bgo (B2.out) hb)
          have R3 := Lib.hid (R2.out.fresh hb)
          have S3 := Lib.hid (own_rd hown)
          clear hb hown J2 R2 B2
          have hs : n3 = max m l := by have := S3.out.intLen; have := hly.out; have := hlz.out; rw [joinL_length] at *; omega
          have hs2 : n3 ≤ 6000 := by omega
          clear hs
          go_wp2_with fail
          refine (join_any _ _ n _ c1 _ xs _ _ ((hx.fresh B3.out)) (S3.out) (by omega)).mono ?_
          rintro e v4 ⟨hb, ao4, n4, cap4, rfl, hown⟩
          have B4 := Lib.hid (bgo (B3.out) hb)
          have R4 := Lib.hid (R3.out.fresh hb)
          have T4 := Lib.hid (own_rd hown)
          clear hb hown R3 S3 B3
          go_wp2_with fail
          refine (same_b _ _ _ _ _ _ _ _ _ (R4.out) (T4.out) true (by simp [ord_assoc])).mono ?_
          rintro e v5 ⟨rfl, hb⟩
          have B5 := Lib.hid (bgo (B4.out) hb)
          clear hb R4 T4 B4
          go_wp2_with fail
          refine (leq_any _ _ _ _ _ _ xs ys _ ((hx.fresh B5.out)) ((hy.fresh B5.out)) false Hab.out).mono ?_
          rintro e v6 ⟨rfl, hb⟩
          have B6 := Lib.hid (bgo (B5.out) hb)
          clear hb B5
          go_wp2_with fail
          refine (leq_any _ _ _ _ _ _ xs xs _ ((hx.fresh B6.out)) ((hx.fresh B6.out)) true (ord_refl _)).mono ?_
          rintro e v7 ⟨rfl, hb⟩
          have B7 := Lib.hid (bgo (B6.out) hb)
          clear hb B6
          go_wp2_with fail
          go_meet
          exact ⟨rfl, B7.out⟩
        · have Hab := Lib.hid hab; clear hab
          cases hbc : leqB ys zs
          · have Hbc := Lib.hid hbc; clear hbc
            go_wp2_with fail
            refine (join_any _ _ _ l _ c3 _ zs _ (J1.out) ((hz.fresh B1.out)) (by omega)).mono ?_
            rintro e v2 ⟨hb, ao2, n2, cap2, rfl, hown⟩
            have B2 := Lib.hid (bgo (B1.out) hb)
            have J2 := Lib.hid (J1.out.fresh hb)
            have R2 := Lib.hid (own_rd hown)
            clear hb hown J1 B1
            go_wp2_with fail
            refine (join_any _ _ m l c2 c3 ys zs _ ((hy.fresh B2.out)) ((hz.fresh B2.out)) (by omega)).mono ?_
            rintro e v3 ⟨hb, ao3, n3, cap3, rfl, hown⟩
            have B3 := Lib.hid (bgo (B2.out) hb)
            have R3 := Lib.hid (R2.out.fresh hb)
            have S3 := Lib.hid (own_rd hown)
            clear hb hown J2 R2 B2
            have hs : n3 = max m l := by have := S3.out.intLen; have := hly.out; have := hlz.out; rw [joinL_length] at *; omega
            have hs2 : n3 ≤ 6000 := by omega
            clear hs
            go_wp2_with fail
            refine (join_any _ _ n _ c1 _ xs _ _ ((hx.fresh B3.out)) (S3.out) (by omega)).mono ?_
            rintro e v4 ⟨hb, ao4, n4, cap4, rfl, hown⟩
            have B4 := Lib.hid (bgo (B3.out) hb)
            have R4 := Lib.hid (R3.out.fresh hb)
            have T4 := Lib.hid (own_rd hown)
            clear hb hown R3 S3 B3
            go_wp2_with fail
            refine (same_b _ _ _ _ _ _ _ _ _ (R4.out) (T4.out) true (by simp [ord_assoc])).mono ?_
            rintro e v5 ⟨rfl, hb⟩
            have B5 := Lib.hid (bgo (B4.out) hb)
            clear hb R4 T4 B4
            go_wp2_with fail
            refine (leq_any _ _ _ _ _ _ xs ys _ ((hx.fresh B5.out)) ((hy.fresh B5.out)) true Hab.out).mono ?_
            rintro e v6 ⟨rfl, hb⟩
            have B6 := Lib.hid (bgo (B5.out) hb)
            clear hb B5
            go_wp2_with fail
            refine (leq_any _ _ _ _ _ _ ys zs _ ((hy.fresh B6.out)) ((hz.fresh B6.out)) false Hbc.out).mono ?_
            rintro e v7 ⟨rfl, hb⟩
            have B7 := Lib.hid (bgo (B6.out) hb)
            clear hb B6
            go_wp2_with fail
            refine (leq_any _ _ _ _ _ _ xs xs _ ((hx.fresh B7.out)) ((hx.fresh B7.out)) true (ord_refl _)).mono ?_
            rintro e v8 ⟨rfl, hb⟩
            have B8 := Lib.hid (bgo (B7.out) hb)
            clear hb B7
            go_wp2_with fail
            go_meet
            exact ⟨rfl, B8.out⟩
          · have Hbc := Lib.hid hbc; clear hbc
            go_wp2_with fail
            refine (join_any _ _ _ l _ c3 _ zs _ (J1.out) ((hz.fresh B1.out)) (by omega)).mono ?_
            rintro e v2 ⟨hb, ao2, n2, cap2, rfl, hown⟩
            have B2 := Lib.hid (bgo (B1.out) hb)
            have J2 := Lib.hid (J1.out.fresh hb)
            have R2 := Lib.hid (own_rd hown)
            clear hb hown J1 B1
            go_wp2_with fail
            refine (join_any _ _ m l c2 c3 ys zs _ ((hy.fresh B2.out)) ((hz.fresh B2.out)) (by omega)).mono ?_
            rintro e v3 ⟨hb, ao3, n3, cap3, rfl, hown⟩
            have B3 := Lib.hid (bgo (B2.out) hb)
            have R3 := Lib.hid (R2.out.fresh hb)
            have S3 := Lib.hid (own_rd hown)
            clear hb hown J2 R2 B2
            have hs : n3 = max m l := by have := S3.out.intLen; have := hly.out; have := hlz.out; rw [joinL_length] at *; omega
            have hs2 : n3 ≤ 6000 := by omega
            clear hs
            go_wp2_with fail
            refine (join_any _ _ n _ c1 _ xs _ _ ((hx.fresh B3.out)) (S3.out) (by omega)).mono ?_
            rintro e v4 ⟨hb, ao4, n4, cap4, rfl, hown⟩
            have B4 := Lib.hid (bgo (B3.out) hb)
            have R4 := Lib.hid (R3.out.fresh hb)
            have T4 := Lib.hid (own_rd hown)
            clear hb hown R3 S3 B3
            go_wp2_with fail
            refine (same_b _ _ _ _ _ _ _ _ _ (R4.out) (T4.out) true (by simp [ord_assoc])).mono ?_
            rintro e v5 ⟨rfl, hb⟩
            have B5 := Lib.hid (bgo (B4.out) hb)
            clear hb R4 T4 B4
            go_wp2_with fail
            refine (leq_any _ _ _ _ _ _ xs ys _ ((hx.fresh B5.out)) ((hy.fresh B5.out)) true Hab.out).mono ?_
            rintro e v6 ⟨rfl, hb⟩
            have B6 := Lib.hid (bgo (B5.out) hb)
            clear hb B5
            go_wp2_with fail
            refine (leq_any _ _ _ _ _ _ ys zs _ ((hy.fresh B6.out)) ((hz.fresh B6.out)) true Hbc.out).mono ?_
            rintro e v7 ⟨rfl, hb⟩
            have B7 := Lib.hid (bgo (B6.out) hb)
            clear hb B6
            go_wp2_with fail
            refine (leq_any _ _ _ _ _ _ xs zs _ ((hx.fresh B7.out)) ((hz.fresh B7.out)) true (ord_trans Hab.out Hbc.out)).mono ?_
            rintro e v8 ⟨rfl, hb⟩
            have B8 := Lib.hid (bgo (B7.out) hb)
            clear hb B7
            go_wp2_with fail
            refine (leq_any _ _ _ _ _ _ xs xs _ ((hx.fresh B8.out)) ((hx.fresh B8.out)) true (ord_refl _)).mono ?_
            rintro e v9 ⟨rfl, hb⟩
            have B9 := Lib.hid (bgo (B8.out) hb)
            clear hb B8
            go_wp2_with fail
            go_meet
            exact ⟨rfl, B9.out⟩
      case rest =>
        obtain ⟨rfl, H⟩ := hcut
        clear J1 B1
        have B1 := Lib.hid H.out
        clear H
        obtain ⟨t, ht⟩ : ∃ t : Nat, t = m % 64 := ⟨_, rfl⟩
        have hmod : (m : Int) % 64 = (t : Int) := by omega
        have ht2 : t ≤ 63 := by omega
        clear ht
        have Hmod := Lib.hid hmod; clear hmod
        go_upto_region 8 with (fail)
        go_cut [8] from 90 to 92 (fun s wx => s = .int .i64 ((t : Nat) : Int) ∧ wc = wx)
        case first =>
          go_wp2_with fail
          go_meet
          exact ⟨by rw [Hmod.out], rfl⟩
        case rest =>
          obtain ⟨rfl, rfl⟩ := hcut
          go_wp2_with fail
          refine (tick_any _ n c1 xs t _ ((hx.fresh B1.out)) hwx (by omega)).mono ?_
          rintro e v2 ⟨hb, ao2, n2, cap2, rfl, hown⟩
          have B2 := Lib.hid (bgo (B1.out) hb)
          have U2 := Lib.hid (own_rd hown)
          clear hb hown B1
          have hul : n2 = max n (t + 1) := by have := U2.out.intLen; have := hlx.out; rw [tickL_in (by omega) (by omega), tickAt_length] at *; omega
          have hul1 : n ≤ n2 := by omega
          have hul2 : t < n2 := by omega
          have hul3 : n2 ≤ max n (t + 1) := by omega
          clear hul
          obtain ⟨us, hus⟩ : ∃ us, us = tickL xs t := ⟨_, rfl⟩
          have hgu : ∀ i, gi us i = if i = t ∧ gi xs t < 9223372036854775807 then gi xs t + 1 else gi xs i := by intro i; rw [hus, tickL_in (by omega) (by omega)]; exact gi_tickAt _ _ _
          rw [← hus] at U2
          have Hgu := Lib.hid hgu; clear hgu hus
          have hx2 := hx.fresh B2.out
          have hcx := hx2.intCell
          have hcu := U2.out.intCell
          have hix := idx_run (P := Try.prog) hx2 Try.underlying22 el_i64.sz .i64
          have hiu := idx_run (P := Try.prog) U2.out Try.underlying22 el_i64.sz .i64
          have hl1 := hx.lecap
          have hl2 := hx.lemax
          have hl3 := U2.out.lecap
          have hl4 := U2.out.lemax
          have HX2 := Lib.hid hx2; clear hx2
          go_wp2_with fail
          go_loopw [98] (fun i wr => ∃ k : Nat, k ≤ n ∧ i = .int .i64 k ∧ ∃ q, wr = v2.drewN q) (fun i _ => n - (intOf i).toNat)
          case atStart => exact ⟨0, by omega, rfl, 0, rfl⟩
          case round =>
            obtain ⟨k, hk, rfl, q, rfl⟩ := hrel
            by_cases hlt : k < n
            · have hlt2 : k < n2 := by omega
              have hge : decide (gi us k < gi xs k) = false := by
                have := Hgu.out k
                by_cases e : k = t
                · subst e; rw [this]; simp; split <;> omega
                · rw [this, if_neg (by omega)]; simp
              by_cases hkt : k = t
              · have hb1 : ((k : Int) != (t : Int)) = false := by simp; omega
                clear hkt
                go_wp2_with fail
                go_quiet (fail)
                go_wp2_with fail
                go_roundw
                case rel => exact ⟨k + 1, by omega, by go_num, q + nq, rfl⟩
                case measure => show n - ((k : Int) + 1).toNat < n - (k : Int).toNat; omega
              · have hb1 : ((k : Int) != (t : Int)) = true := by simp; omega
                have hb2 : (gi us k != gi xs k) = false := by have := Hgu.out k; rw [this, if_neg (by omega)]; simp
                clear hkt
                go_wp2_with fail
                go_quiet (fail)
                go_wp2_with fail
                go_roundw
                case rel => exact ⟨k + 1, by omega, by go_num, q + nq, rfl⟩
                case measure => show n - ((k : Int) + 1).toNat < n - (k : Int).toNat; omega
            · obtain ⟨bb, hbb1, hbb2⟩ : ∃ bb, decide (0 < gi us t) = bb ∧ decide (0 ≤ gi xs t) = bb := by
                refine ⟨_, rfl, ?_⟩
                have := Hgu.out t
                have h5 := (hwx.gi t).2
                rw [this]
                simp only [decide_eq_decide, true_and]
                split <;> omega
              have hg1 : decide (n ≤ n2) = true := by simpa using hul1
              obtain ⟨N, hN⟩ : ∃ N, N = max n (t + 1) := ⟨_, rfl⟩
              have hmx : (if (n : Int) < (t : Int) + 1 then (t : Int) + 1 else (n : Int)) = (N : Int) := by split <;> omega
              have hg2 : decide (n2 ≤ N) = true := by rw [hN]; simpa using hul3
              have hw1 : IntKind.i64.wrap ((t : Int) + 1) = (t : Int) + 1 := IntWalk.i64_in _ (by omega)
              clear hul3 hN
              go_wp2_with fail
              have B8 : Hid (Below w.heap.size w (v2.drewN q)) := bgo B2.out (drn _ q)
              have hx8 : Hid (Rd (v2.drewN q) 1 ao n c1 (ints .i64 xs)) := HX2.out.fresh (drn _ q)
              have hu8 : Hid (Rd (v2.drewN q) 1 ao2 n2 cap2 (ints .i64 us)) := U2.out.fresh (drn _ q)
              generalize v2.drewN q = w8 at *
              clear hcx hcu HX2 U2 B2 hix
              have hcu := hu8.out.intCell
              go_still_tail 28, (by kernel_rfl)
              still_call ((at_any _ n c1 xs t w8.drew (hx8.out.fresh (drw _))).mono fun e w' ⟨he, hw⟩ => ⟨he, hw.symm⟩)
              repeat still_step
              refine wpStill_nil ?_
              change wpList _ _ _ _ _ w8.drew
              have B9 : Hid (Below w.heap.size w w8.drew) := bgo B8.out (drw _)
              generalize w8.drew = w9 at *
          
              clear B8 hx8 hu8 hcu
              go_wp2_with fail
              refine (awake_any _).mono ?_
              rintro e v3 ⟨rfl, hb⟩
              have B3 := Lib.hid (bgo (B9.out) hb)
              clear hb B9
              go_wp2_with fail
              go_ret
              exact ⟨rfl, B3.out⟩
end Go.Proofs.Ytonenaahmicacaa
