/-
  The law ClockUp, walked: it returns true, whatever the three clocks. Condition: each clock's bytes are within the form's own reach.
-/
import Derived.Test.YtonenaahmicacaaClockA
set_option linter.unusedVariables false
namespace Go.Proofs.Ytonenaahmicacaa
open Go.RowKit Go.Am

theorem up_join {a b c : List Int} : leqB (joinL a b) (joinL (joinL a c) b) = true := by
  rw [leqB_true]; intro i; rw [gi_joinL, gi_joinL, gi_joinL]; omega
theorem up_left {a b c : List Int} (h : leqB c a = true) : leqB c (joinL a b) = true := by
  rw [leqB_true] at *; intro i; have := h i; rw [gi_joinL]; omega
theorem up_right {a b c : List Int} (h : leqB c b = true) : leqB c (joinL a b) = true := by
  rw [leqB_true] at *; intro i; have := h i; rw [gi_joinL]; omega
theorem join_self (a : List Int) : joinL a a = a := by
  apply ext_gi
  · rw [joinL_length]; omega
  · intro i _; rw [gi_joinL]; omega
theorem join_nil (a : List Int) : joinL a [] = aboveL a := by
  apply ext_gi
  · rw [joinL_length]; simp [aboveL]
  · intro i hi
    rw [joinL_length] at hi
    simp at hi
    rw [gi_joinL, gi_lt (xs := aboveL a) (by simpa [aboveL] using hi)]
    simp [aboveL, gi, List.getD, hi]

set_option maxHeartbeats 1000000 in
theorem up_any (ao bo co : Option Addr) (n m l c1 c2 c3 : Nat) (xs ys zs : List Int) (w : World) (hx : Rd w 1 ao n c1 (ints .i64 xs)) (hy : Rd w 1 bo m c2 (ints .i64 ys)) (hz : Rd w 1 co l c3 (ints .i64 zs))
    (h1 : n * 8 ≤ 140737488351232) (h2 : m * 8 ≤ 140737488351232) (h3 : l * 8 ≤ 140737488351232) :
    Calls Try.prog 5 #[.slice ao n c1, .slice bo m c2, .slice co l c3] w fun e w' => e = .returned (.bool true) ∧ Below w.heap.size w w' := by
  by_cases hlong : 6000 < n + m + l
  · go_enter Try.func5, Try.ntmps5
    go_wp2_with fail
    refine (awake_any _).mono ?_
    rintro e v1 ⟨rfl, hb⟩
    have B1 := Lib.hid (bgo (brefl _) hb)
    clear hb
    go_wp2_with fail
    go_ret
    exact ⟨rfl, B1.out⟩
  · have hn : n + m + l ≤ 6000 := by omega
    clear hlong h1 h2 h3
    have hlx := Lib.hid hx.intLen
    have hly := Lib.hid hy.intLen
    have hlz := Lib.hid hz.intLen
    cases hca : leqB zs xs
    · have Hca := Lib.hid hca; clear hca
      cases hcb : leqB zs ys
      · have Hcb := Lib.hid hcb; clear hcb
        go_enter Try.func5, Try.ntmps5
        go_wp2_with fail
        refine (join_any _ _ n l c1 c3 xs zs _ ((hx)) ((hz)) (by omega)).mono ?_
        rintro e v1 ⟨hb, ao1, n1, cap1, rfl, hown⟩
        have B1 := Lib.hid (bgo (brefl _) hb)
        have U1 := Lib.hid (own_rd hown)
        clear hb hown
        have hu : n1 = max n l := by have := U1.out.intLen; have := hlx.out; have := hlz.out; rw [joinL_length] at *; omega
        have hu2 : n1 ≤ 6000 := by omega
        clear hu
        go_wp2_with fail
        refine (join_any _ _ n m c1 c2 xs ys _ ((hx.fresh B1.out)) ((hy.fresh B1.out)) (by omega)).mono ?_
        rintro e v2 ⟨hb, ao2, n2, cap2, rfl, hown⟩
        have B2 := Lib.hid (bgo (B1.out) hb)
        have U2 := Lib.hid (U1.out.fresh hb)
        have J2 := Lib.hid (own_rd hown)
        clear hb hown U1 B1
        go_wp2_with fail
        refine (join_any _ _ _ m _ c2 _ ys _ (U2.out) ((hy.fresh B2.out)) (by omega)).mono ?_
        rintro e v3 ⟨hb, ao3, n3, cap3, rfl, hown⟩
        have B3 := Lib.hid (bgo (B2.out) hb)
        have J3 := Lib.hid (J2.out.fresh hb)
        have V3 := Lib.hid (own_rd hown)
        clear hb hown U2 J2 B2
        go_wp2_with fail
        refine (leq_any _ _ _ _ _ _ _ _ _ (J3.out) (V3.out) true up_join).mono ?_
        rintro e v4 ⟨rfl, hb⟩
        have B4 := Lib.hid (bgo (B3.out) hb)
        clear hb J3 V3 B3
        go_wp2_with fail
        refine (join_any _ _ n m c1 c2 xs ys _ ((hx.fresh B4.out)) ((hy.fresh B4.out)) (by omega)).mono ?_
        rintro e v5 ⟨hb, ao5, n5, cap5, rfl, hown⟩
        have B5 := Lib.hid (bgo (B4.out) hb)
        have J5 := Lib.hid (own_rd hown)
        clear hb hown B4
        have hv : n5 = max n m := by have := J5.out.intLen; have := hlx.out; have := hly.out; rw [joinL_length] at *; omega
        have hv2 : n5 ≤ 6000 := by omega
        clear hv
        go_wp2_with fail
        refine (leq_any _ _ _ _ _ _ zs xs _ ((hz.fresh B5.out)) ((hx.fresh B5.out)) false Hca.out).mono ?_
        rintro e v6 ⟨rfl, hb⟩
        have B6 := Lib.hid (bgo (B5.out) hb)
        have J6 := Lib.hid (J5.out.fresh hb)
        clear hb J5 B5
        go_wp2_with fail
        refine (leq_any _ _ _ _ _ _ zs ys _ ((hz.fresh B6.out)) ((hy.fresh B6.out)) false Hcb.out).mono ?_
        rintro e v7 ⟨rfl, hb⟩
        have B7 := Lib.hid (bgo (B6.out) hb)
        have J7 := Lib.hid (J6.out.fresh hb)
        clear hb J6 B6
        go_wp2_with fail
        refine (join_any _ _ _ _ _ _ _ _ _ (J7.out) (J7.out) (by omega)).mono ?_
        rintro e v8 ⟨hb, ao8, n8, cap8, rfl, hown⟩
        have B8 := Lib.hid (bgo (B7.out) hb)
        have J8 := Lib.hid (J7.out.fresh hb)
        have D8 := Lib.hid (own_rd hown)
        clear hb hown J7 B7
        go_wp2_with fail
        refine (same_b _ _ _ _ _ _ _ _ _ (D8.out) (J8.out) true (by simp [join_self])).mono ?_
        rintro e v9 ⟨rfl, hb⟩
        have B9 := Lib.hid (bgo (B8.out) hb)
        clear hb J8 D8 B8
        go_wp2_with fail
        refine (join_any _ none n 0 c1 0 xs [] _ ((hx.fresh B9.out)) Rd.nilI (by omega)).mono ?_
        rintro e v10 ⟨hb, ao10, n10, cap10, rfl, hown⟩
        have B10 := Lib.hid (bgo (B9.out) hb)
        have E10 := Lib.hid (own_rd hown)
        clear hb hown B9
        go_wp2_with fail
        refine (above_any _ n c1 xs _ ((hx.fresh B10.out)) (by omega)).mono ?_
        rintro e v11 ⟨hb, ao11, n11, cap11, rfl, hown⟩
        have B11 := Lib.hid (bgo (B10.out) hb)
        have E11 := Lib.hid (E10.out.fresh hb)
        have F11 := Lib.hid (own_rd hown)
        clear hb hown E10 B10
        go_wp2_with fail
        refine (same_b _ _ _ _ _ _ _ _ _ (E11.out) (F11.out) true (by simp [join_nil])).mono ?_
        rintro e v12 ⟨rfl, hb⟩
        have B12 := Lib.hid (bgo (B11.out) hb)
        clear hb E11 F11 B11
        go_wp2_with fail
        refine (awake_any _).mono ?_
        rintro e v13 ⟨rfl, hb⟩
        have B13 := Lib.hid (bgo (B12.out) hb)
        clear hb B12
        go_wp2_with fail
        go_ret
        exact ⟨rfl, B13.out⟩
      · have Hcb := Lib.hid hcb; clear hcb
        go_enter Try.func5, Try.ntmps5
        go_wp2_with fail
        refine (join_any _ _ n l c1 c3 xs zs _ ((hx)) ((hz)) (by omega)).mono ?_
        rintro e v1 ⟨hb, ao1, n1, cap1, rfl, hown⟩
        have B1 := Lib.hid (bgo (brefl _) hb)
        have U1 := Lib.hid (own_rd hown)
        clear hb hown
        have hu : n1 = max n l := by have := U1.out.intLen; have := hlx.out; have := hlz.out; rw [joinL_length] at *; omega
        have hu2 : n1 ≤ 6000 := by omega
        clear hu
        go_wp2_with fail
        refine (join_any _ _ n m c1 c2 xs ys _ ((hx.fresh B1.out)) ((hy.fresh B1.out)) (by omega)).mono ?_
        rintro e v2 ⟨hb, ao2, n2, cap2, rfl, hown⟩
        have B2 := Lib.hid (bgo (B1.out) hb)
        have U2 := Lib.hid (U1.out.fresh hb)
        have J2 := Lib.hid (own_rd hown)
        clear hb hown U1 B1
        go_wp2_with fail
        refine (join_any _ _ _ m _ c2 _ ys _ (U2.out) ((hy.fresh B2.out)) (by omega)).mono ?_
        rintro e v3 ⟨hb, ao3, n3, cap3, rfl, hown⟩
        have B3 := Lib.hid (bgo (B2.out) hb)
        have J3 := Lib.hid (J2.out.fresh hb)
        have V3 := Lib.hid (own_rd hown)
        clear hb hown U2 J2 B2
        go_wp2_with fail
        refine (leq_any _ _ _ _ _ _ _ _ _ (J3.out) (V3.out) true up_join).mono ?_
        rintro e v4 ⟨rfl, hb⟩
        have B4 := Lib.hid (bgo (B3.out) hb)
        clear hb J3 V3 B3
        go_wp2_with fail
        refine (join_any _ _ n m c1 c2 xs ys _ ((hx.fresh B4.out)) ((hy.fresh B4.out)) (by omega)).mono ?_
        rintro e v5 ⟨hb, ao5, n5, cap5, rfl, hown⟩
        have B5 := Lib.hid (bgo (B4.out) hb)
        have J5 := Lib.hid (own_rd hown)
        clear hb hown B4
        have hv : n5 = max n m := by have := J5.out.intLen; have := hlx.out; have := hly.out; rw [joinL_length] at *; omega
        have hv2 : n5 ≤ 6000 := by omega
        clear hv
        go_wp2_with fail
        refine (leq_any _ _ _ _ _ _ zs xs _ ((hz.fresh B5.out)) ((hx.fresh B5.out)) false Hca.out).mono ?_
        rintro e v6 ⟨rfl, hb⟩
        have B6 := Lib.hid (bgo (B5.out) hb)
        have J6 := Lib.hid (J5.out.fresh hb)
        clear hb J5 B5
        go_wp2_with fail
        refine (leq_any _ _ _ _ _ _ zs ys _ ((hz.fresh B6.out)) ((hy.fresh B6.out)) true Hcb.out).mono ?_
        rintro e v7 ⟨rfl, hb⟩
        have B7 := Lib.hid (bgo (B6.out) hb)
        have J7 := Lib.hid (J6.out.fresh hb)
        clear hb J6 B6
        go_wp2_with fail
        refine (leq_any _ _ _ _ _ _ zs _ _ ((hz.fresh B7.out)) (J7.out) true (up_right Hcb.out)).mono ?_
        rintro e v8 ⟨rfl, hb⟩
        have B8 := Lib.hid (bgo (B7.out) hb)
        have J8 := Lib.hid (J7.out.fresh hb)
        clear hb J7 B7
        go_wp2_with fail
        refine (join_any _ _ _ _ _ _ _ _ _ (J8.out) (J8.out) (by omega)).mono ?_
        rintro e v9 ⟨hb, ao9, n9, cap9, rfl, hown⟩
        have B9 := Lib.hid (bgo (B8.out) hb)
        have J9 := Lib.hid (J8.out.fresh hb)
        have D9 := Lib.hid (own_rd hown)
        clear hb hown J8 B8
        go_wp2_with fail
        refine (same_b _ _ _ _ _ _ _ _ _ (D9.out) (J9.out) true (by simp [join_self])).mono ?_
        rintro e v10 ⟨rfl, hb⟩
        have B10 := Lib.hid (bgo (B9.out) hb)
        clear hb J9 D9 B9
        go_wp2_with fail
        refine (join_any _ none n 0 c1 0 xs [] _ ((hx.fresh B10.out)) Rd.nilI (by omega)).mono ?_
        rintro e v11 ⟨hb, ao11, n11, cap11, rfl, hown⟩
        have B11 := Lib.hid (bgo (B10.out) hb)
        have E11 := Lib.hid (own_rd hown)
        clear hb hown B10
        go_wp2_with fail
        refine (above_any _ n c1 xs _ ((hx.fresh B11.out)) (by omega)).mono ?_
        rintro e v12 ⟨hb, ao12, n12, cap12, rfl, hown⟩
        have B12 := Lib.hid (bgo (B11.out) hb)
        have E12 := Lib.hid (E11.out.fresh hb)
        have F12 := Lib.hid (own_rd hown)
        clear hb hown E11 B11
        go_wp2_with fail
        refine (same_b _ _ _ _ _ _ _ _ _ (E12.out) (F12.out) true (by simp [join_nil])).mono ?_
        rintro e v13 ⟨rfl, hb⟩
        have B13 := Lib.hid (bgo (B12.out) hb)
        clear hb E12 F12 B12
        go_wp2_with fail
        refine (awake_any _).mono ?_
        rintro e v14 ⟨rfl, hb⟩
        have B14 := Lib.hid (bgo (B13.out) hb)
        clear hb B13
        go_wp2_with fail
        go_ret
        exact ⟨rfl, B14.out⟩
    · have Hca := Lib.hid hca; clear hca
      go_enter Try.func5, Try.ntmps5
      go_wp2_with fail
      refine (join_any _ _ n l c1 c3 xs zs _ ((hx)) ((hz)) (by omega)).mono ?_
      rintro e v1 ⟨hb, ao1, n1, cap1, rfl, hown⟩
      have B1 := Lib.hid (bgo (brefl _) hb)
      have U1 := Lib.hid (own_rd hown)
      clear hb hown
      have hu : n1 = max n l := by have := U1.out.intLen; have := hlx.out; have := hlz.out; rw [joinL_length] at *; omega
      have hu2 : n1 ≤ 6000 := by omega
      clear hu
      go_wp2_with fail
      refine (join_any _ _ n m c1 c2 xs ys _ ((hx.fresh B1.out)) ((hy.fresh B1.out)) (by omega)).mono ?_
      rintro e v2 ⟨hb, ao2, n2, cap2, rfl, hown⟩
      have B2 := Lib.hid (bgo (B1.out) hb)
      have U2 := Lib.hid (U1.out.fresh hb)
      have J2 := Lib.hid (own_rd hown)
      clear hb hown U1 B1
      go_wp2_with fail
      refine (join_any _ _ _ m _ c2 _ ys _ (U2.out) ((hy.fresh B2.out)) (by omega)).mono ?_
      rintro e v3 ⟨hb, ao3, n3, cap3, rfl, hown⟩
      have B3 := Lib.hid (bgo (B2.out) hb)
      have J3 := Lib.hid (J2.out.fresh hb)
      have V3 := Lib.hid (own_rd hown)
      clear hb hown U2 J2 B2
      go_wp2_with fail
      refine (leq_any _ _ _ _ _ _ _ _ _ (J3.out) (V3.out) true up_join).mono ?_
      rintro e v4 ⟨rfl, hb⟩
      have B4 := Lib.hid (bgo (B3.out) hb)
      clear hb J3 V3 B3
      go_wp2_with fail
      refine (join_any _ _ n m c1 c2 xs ys _ ((hx.fresh B4.out)) ((hy.fresh B4.out)) (by omega)).mono ?_
      rintro e v5 ⟨hb, ao5, n5, cap5, rfl, hown⟩
      have B5 := Lib.hid (bgo (B4.out) hb)
      have J5 := Lib.hid (own_rd hown)
      clear hb hown B4
      have hv : n5 = max n m := by have := J5.out.intLen; have := hlx.out; have := hly.out; rw [joinL_length] at *; omega
      have hv2 : n5 ≤ 6000 := by omega
      clear hv
      go_wp2_with fail
      refine (leq_any _ _ _ _ _ _ zs xs _ ((hz.fresh B5.out)) ((hx.fresh B5.out)) true Hca.out).mono ?_
      rintro e v6 ⟨rfl, hb⟩
      have B6 := Lib.hid (bgo (B5.out) hb)
      have J6 := Lib.hid (J5.out.fresh hb)
      clear hb J5 B5
      go_wp2_with fail
      refine (leq_any _ _ _ _ _ _ zs _ _ ((hz.fresh B6.out)) (J6.out) true (up_left Hca.out)).mono ?_
      rintro e v7 ⟨rfl, hb⟩
      have B7 := Lib.hid (bgo (B6.out) hb)
      have J7 := Lib.hid (J6.out.fresh hb)
      clear hb J6 B6
      go_wp2_with fail
      refine (join_any _ _ _ _ _ _ _ _ _ (J7.out) (J7.out) (by omega)).mono ?_
      rintro e v8 ⟨hb, ao8, n8, cap8, rfl, hown⟩
      have B8 := Lib.hid (bgo (B7.out) hb)
      have J8 := Lib.hid (J7.out.fresh hb)
      have D8 := Lib.hid (own_rd hown)
      clear hb hown J7 B7
      go_wp2_with fail
      refine (same_b _ _ _ _ _ _ _ _ _ (D8.out) (J8.out) true (by simp [join_self])).mono ?_
      rintro e v9 ⟨rfl, hb⟩
      have B9 := Lib.hid (bgo (B8.out) hb)
      clear hb J8 D8 B8
      go_wp2_with fail
      refine (join_any _ none n 0 c1 0 xs [] _ ((hx.fresh B9.out)) Rd.nilI (by omega)).mono ?_
      rintro e v10 ⟨hb, ao10, n10, cap10, rfl, hown⟩
      have B10 := Lib.hid (bgo (B9.out) hb)
      have E10 := Lib.hid (own_rd hown)
      clear hb hown B9
      go_wp2_with fail
      refine (above_any _ n c1 xs _ ((hx.fresh B10.out)) (by omega)).mono ?_
      rintro e v11 ⟨hb, ao11, n11, cap11, rfl, hown⟩
      have B11 := Lib.hid (bgo (B10.out) hb)
      have E11 := Lib.hid (E10.out.fresh hb)
      have F11 := Lib.hid (own_rd hown)
      clear hb hown E10 B10
      go_wp2_with fail
      refine (same_b _ _ _ _ _ _ _ _ _ (E11.out) (F11.out) true (by simp [join_nil])).mono ?_
      rintro e v12 ⟨rfl, hb⟩
      have B12 := Lib.hid (bgo (B11.out) hb)
      clear hb E11 F11 B11
      go_wp2_with fail
      refine (awake_any _).mono ?_
      rintro e v13 ⟨rfl, hb⟩
      have B13 := Lib.hid (bgo (B12.out) hb)
      clear hb B12
      go_wp2_with fail
      go_ret
      exact ⟨rfl, B13.out⟩
end Go.Proofs.Ytonenaahmicacaa
