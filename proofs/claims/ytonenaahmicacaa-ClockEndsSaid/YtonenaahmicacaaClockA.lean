/-
  The chapter's examples for clocks ('awake') come out true. No condition.
-/
import Derived.Test.YtonenaahmicacaaClockH
set_option linter.unusedVariables false
namespace Go.Proofs.Ytonenaahmicacaa
open Go.RowKit Go.Am

set_option maxHeartbeats 1000000 in
theorem awake_any (w : World) : Calls Try.prog 8 #[] w fun e w' => e = .returned (.bool true) ∧ Below w.heap.size w w' := by
  go_enter Try.func8, Try.ntmps8
  go_wp2_with fail
  refine (join_any _ _ 2 3 2 3 [1, 2] [0, 3, 4] _ ?_ ?_ (by omega)).mono ?_
  · exact (Rd.at (by simp) rfl (by omega)).fresh (alc _ _)
  · exact Rd.at (by simp) rfl (by omega)
  rintro e w1 ⟨hb1, ao1, n1, cap1, rfl, hown1⟩
  have B1 := Lib.hid (bgo (bgo (alc w _) (alc _ _)) hb1)
  have R1 := Lib.hid (own_rd hown1)
  clear hb1 hown1
  go_wp2_with fail
  refine (same_b _ _ _ 3 _ 3 (joinL [1, 2] [0, 3, 4]) [1, 3, 4] _ ?_ ?_ true (by decide)).mono ?_
  · exact R1.out.fresh (alc _ _)
  · exact Rd.at (by simp) rfl (by omega)
  rintro e w2 ⟨rfl, hb2⟩
  have B2 := Lib.hid (bgo (bgo B1.out (alc _ _)) hb2)
  clear hb2 R1
  go_wp2_with fail
  refine (leq_any _ _ 2 3 2 3 [1, 2] [1, 2, 0] _ ?_ ?_ true (by decide)).mono ?_
  · exact (Rd.at (by simp) rfl (by omega)).fresh (alc _ _)
  · exact Rd.at (by simp) rfl (by omega)
  rintro e w3 ⟨rfl, hb3⟩
  have B3 := Lib.hid (bgo (bgo (bgo B2.out (alc _ _)) (alc _ _)) hb3)
  clear hb3
  go_wp2_with fail
  refine (leq_any _ _ 2 2 2 2 [1, 3] [1, 2] _ ?_ ?_ false (by decide)).mono ?_
  · exact (Rd.at (by simp) rfl (by omega)).fresh (alc _ _)
  · exact Rd.at (by simp) rfl (by omega)
  rintro e w4 ⟨rfl, hb4⟩
  have B4 := Lib.hid (bgo (bgo (bgo B3.out (alc _ _)) (alc _ _)) hb4)
  clear hb4
  go_wp2_with fail
  refine (tick_any _ 1 1 [1] 2 _ ?_ (by intro x hx; simp at hx; subst hx; unfold in64; omega) (by omega)).mono ?_
  · exact Rd.at (by simp) rfl (by omega)
  rintro e w5 ⟨hb5, ao5, n5, cap5, rfl, hown5⟩
  have B5 := Lib.hid (bgo (bgo B4.out (alc _ _)) hb5)
  have R5 := Lib.hid (own_rd hown5)
  clear hb5 hown5
  go_wp2_with fail
  refine (same_b _ _ _ 3 _ 3 (tickL [1] 2) [1, 0, 1] _ ?_ ?_ true (by decide)).mono ?_
  · exact R5.out.fresh (alc _ _)
  · exact Rd.at (by simp) rfl (by omega)
  rintro e w6 ⟨rfl, hb6⟩
  have B6 := Lib.hid (bgo (bgo B5.out (alc _ _)) hb6)
  clear hb6
  go_wp2_with fail
  go_ret
  exact ⟨rfl, B6.out⟩
end Go.Proofs.Ytonenaahmicacaa
