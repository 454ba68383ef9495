/-
  The law ClockTells, walked: it returns true, whatever the clocks and the thread. No condition.
-/
import Derived.Test.YtonenaahmicacaaClockA
set_option linter.unusedVariables false
namespace Go.Proofs.Ytonenaahmicacaa
open Go.RowKit Go.Am

set_option maxHeartbeats 1000000 in
theorem tells_long (ao bo : Option Addr) (n m c1 c2 : Nat) (xs ys : List Int) (t : Int) (w : World) (h : 5000 < n ∨ (¬ 5000 < n ∧ 5000 < m)) :
    Calls Try.prog 3 #[.slice ao n c1, .slice bo m c2, .int .i64 t] w fun e w' => e = .returned (.bool true) ∧ Below w.heap.size w w' := by
  rcases h with h | ⟨h, h2⟩
  · go_enter Try.func3, Try.ntmps3
    go_wp2_with fail
    refine (awake_any _).mono ?_
    rintro e w6 ⟨rfl, hb6⟩
    have B6 := Lib.hid hb6; clear hb6
    go_wp2_with fail
    go_ret
    exact ⟨rfl, B6.out⟩
  · have h1' : decide (5000 < n) = false := by simpa using h
    go_enter Try.func3, Try.ntmps3
    go_wp2_with fail
    refine (awake_any _).mono ?_
    rintro e w6 ⟨rfl, hb6⟩
    have B6 := Lib.hid hb6; clear hb6
    go_wp2_with fail
    go_ret
    exact ⟨rfl, B6.out⟩

set_option maxHeartbeats 1000000 in
theorem tells_any (ao bo : Option Addr) (n m c1 c2 : Nat) (xs ys : List Int) (t : Int) (w : World) (hx : Rd w 1 ao n c1 (ints .i64 xs)) (hy : Rd w 1 bo m c2 (ints .i64 ys)) (hwx : wf64 xs) :
    Calls Try.prog 3 #[.slice ao n c1, .slice bo m c2, .int .i64 t] w fun e w' => e = .returned (.bool true) ∧ Below w.heap.size w w' := by
  by_cases hlong : 5000 < n ∨ (¬ 5000 < n ∧ 5000 < m)
  · exact tells_long ao bo n m c1 c2 xs ys t w hlong
  have hn : n ≤ 5000 := by omega
  have hm : m ≤ 5000 := by omega
  have hl := hx.lecap
  clear hlong
  obtain ⟨b, hb⟩ : ∃ b, leqB xs ys = b := ⟨_, rfl⟩
  have Hb := Lib.hid hb; clear hb
  go_enter Try.func3, Try.ntmps3
  go_wp2_with (at_builtin; refine wpl_append el_i64 rfl (.tmp 18) (.tmp 19) rfl rfl (World.ownsRow_lit w #[] 0 (Nat.le_refl _) (by decide) rfl) rfl (hx.fresh (alc _ _)) (ints_one _ _) (by omega) (by simp) ?_)
  intro ao1 cap1 w1 hown1 hg1
  have hb1 : Below w.heap.size w w1 := (alc w _).grown hg1 (by simp) (fun k hk => by simp [Value.ownBlock] at hk; omega)
  have hy1 := hy.fresh hb1
  have hs1 := hb1.size
  have B1 := Lib.hid (And.intro hb1 hown1); clear hb1 hown1 hg1
  go_wp2_with (at_builtin; refine wpl_append el_i64 rfl (.tmp 21) (.tmp 22) rfl rfl (World.ownsRow_lit w1 #[] 0 (Nat.le_refl _) (by decide) rfl) rfl (hy1.fresh (alc _ _)) (ints_one _ _) (by omega) (by simp) ?_)
  intro ao2 cap2 w2 hown2 hg2
  have hb2 : Below w1.heap.size w1 w2 := (alc w1 _).grown hg2 (by simp) (fun k hk => by simp [Value.ownBlock] at hk; omega)
  have hrx := (own_rd B1.out.2).fresh hb2
  have B2 := Lib.hid (bgo B1.out.1 hb2)
  have RX := Lib.hid hrx
  have RY := Lib.hid (own_rd hown2)
  clear hb2 hown2 hg2 hrx hy1
  go_wp2_with fail
  refine (join_any _ _ n m _ _ xs ys _ ?_ ?_ (by omega)).mono ?_
  · have := RX.out; simpa using this
  · have := RY.out; simpa using this
  rintro e w3 ⟨hb3, ao3, n3, cap3, rfl, hown3⟩
  have B3 := Lib.hid (bgo B2.out hb3)
  have X3 := Lib.hid (RX.out.fresh hb3)
  have Y3 := Lib.hid (RY.out.fresh hb3)
  have J3 := Lib.hid (own_rd hown3)
  clear hb3 hown3 RX RY B2 B1
  go_wp2_with fail
  refine (refjoin_any _ _ n m c1 c2 xs ys _ (hx.fresh B3.out) (hy.fresh B3.out) (by omega)).mono ?_
  rintro e w4 ⟨hb4, ao4, n4, cap4, rfl, hown4⟩
  have B4 := Lib.hid (bgo B3.out hb4)
  have X4 := Lib.hid (X3.out.fresh hb4)
  have Y4 := Lib.hid (Y3.out.fresh hb4)
  have J4 := Lib.hid (J3.out.fresh hb4)
  have K4 := Lib.hid (own_rd hown4)
  clear hb4 hown4 X3 Y3 B3 J3
  go_wp2_with fail
  refine (same_b _ _ _ _ _ _ _ _ _ J4.out K4.out true (by simp)).mono ?_
  rintro e w5 ⟨rfl, hb5⟩
  have B5 := Lib.hid (bgo B4.out hb5)
  have X5 := Lib.hid (X4.out.fresh hb5)
  have Y5 := Lib.hid (Y4.out.fresh hb5)
  clear hb5 X4 Y4 J4 K4 B4
  go_wp2_with fail
  refine (leq_any _ _ n m _ _ xs ys _ ?_ ?_ b Hb.out).mono ?_
  · have := X5.out; simpa using this
  · have := Y5.out; simpa using this
  rintro e w6 ⟨rfl, hb6⟩
  have B6 := Lib.hid (bgo B5.out hb6)
  have X6 := Lib.hid (X5.out.fresh hb6)
  have Y6 := Lib.hid (Y5.out.fresh hb6)
  clear hb6 X5 Y5 B5
  go_wp2_with fail
  refine (refleq_any _ _ n m c1 c2 xs ys _ (hx.fresh B6.out) (hy.fresh B6.out) b Hb.out).mono ?_
  rintro e w6' ⟨rfl, rfl⟩
  go_wp2_with fail
  refine (tick_any _ n _ xs t _ ?_ hwx (by omega)).mono ?_
  · have := X6.out; simpa using this
  rintro e w7 ⟨hb7, ao7, n7, cap7, rfl, hown7⟩
  have B7 := Lib.hid (bgo B6.out hb7)
  have X7 := Lib.hid (X6.out.fresh hb7)
  have Y7 := Lib.hid (Y6.out.fresh hb7)
  have T7 := Lib.hid (own_rd hown7)
  clear hb7 hown7 X6 Y6 B6
  go_wp2_with fail
  refine (reftick_any _ n c1 xs t _ (hx.fresh B7.out) hwx (by omega)).mono ?_
  rintro e w8 ⟨hb8, ao8, n8, cap8, rfl, hown8⟩
  have B8 := Lib.hid (bgo B7.out hb8)
  have X8 := Lib.hid (X7.out.fresh hb8)
  have Y8 := Lib.hid (Y7.out.fresh hb8)
  have T8 := Lib.hid (T7.out.fresh hb8)
  have U8 := Lib.hid (own_rd hown8)
  clear hb8 hown8 X7 Y7 T7 B7
  go_wp2_with fail
  refine (same_b _ _ _ _ _ _ _ _ _ T8.out U8.out true (by simp)).mono ?_
  rintro e w9 ⟨rfl, hb9⟩
  have B9 := Lib.hid (bgo B8.out hb9)
  have X9 := Lib.hid (X8.out.fresh hb9)
  have Y9 := Lib.hid (Y8.out.fresh hb9)
  clear hb9 X8 Y8 T8 U8 B8
  go_wp2_with fail
  refine (same_b _ _ _ _ _ _ xs xs _ ?_ (hx.fresh B9.out) true (by simp)).mono ?_
  · have := X9.out; simpa using this
  rintro e w10 ⟨rfl, hb10⟩
  have B10 := Lib.hid (bgo B9.out hb10)
  have Y10 := Lib.hid (Y9.out.fresh hb10)
  clear hb10 X9 Y9 B9
  go_wp2_with fail
  refine (same_b _ _ _ _ _ _ ys ys _ ?_ (hy.fresh B10.out) true (by simp)).mono ?_
  · have := Y10.out; simpa using this
  rintro e w11 ⟨rfl, hb11⟩
  have B11 := Lib.hid (bgo B10.out hb11)
  clear hb11 Y10 B10
  go_wp2_with fail
  refine (awake_any _).mono ?_
  rintro e w12 ⟨rfl, hb12⟩
  have B12 := Lib.hid (bgo B11.out hb12)
  clear hb12
  go_wp2_with fail
  go_ret
  exact ⟨rfl, B12.out⟩
end Go.Proofs.Ytonenaahmicacaa
