/-
  The law ClockEnds, walked: it returns true, whatever the clock and the thread. No condition.
-/
import Derived.Test.YtonenaahmicacaaClockA
import Derived.Deep.Cut
set_option linter.unusedVariables false
namespace Go.Proofs.Ytonenaahmicacaa
open Go.RowKit Go.Am

def fullL : List Int := (List.replicate 64 0).set 63 9223372036854775807
theorem full_tick : tickL fullL 63 = fullL := by decide
theorem wf_full : wf64 fullL := by intro x hx; simp [fullL] at hx; unfold in64; omega

set_option maxRecDepth 100000 in
set_option maxHeartbeats 2000000 in
theorem ends_any (ao : Option Addr) (n c1 : Nat) (xs : List Int) (t : Int) (w : World) (hx : Rd w 1 ao n c1 (ints .i64 xs)) (hwx : wf64 xs) (ht : in64 t) :
    Calls Try.prog 7 #[.slice ao n c1, .int .i64 t] w fun e w' => e = .returned (.bool true) ∧ Below w.heap.size w w' := by
  by_cases hlong : 60 < n
  · go_enter Try.func7, Try.ntmps7
    go_wp2_with fail
    refine (awake_any _).mono ?_
    rintro e v1 ⟨rfl, hb⟩
    have B1 := Lib.hid (bgo (brefl _) hb)
    clear hb
    go_wp2_with fail
    go_ret
    exact ⟨rfl, B1.out⟩
  · have hlx := Lib.hid hx.intLen
    have hn : n ≤ 60 := by omega
    clear hlong
    obtain ⟨ht1, ht2⟩ := ht
    have h3 : (0 ≤ t ∧ t < 64) ∨ t < 0 ∨ (¬ t < 64) := by omega
    rcases h3 with ⟨ha, hb⟩ | ha | ha
    · go_enter Try.func7, Try.ntmps7
      go_wp2_with fail
      refine (tick_out _ n c1 xs (64 + t) _ ((hx)) (by omega) (by omega)).mono ?_
      rintro e v1 ⟨hb, ao1, n1, cap1, rfl, hown⟩
      have B1 := Lib.hid (bgo (brefl _) hb)
      have T1 := Lib.hid (own_rd hown)
      clear hb hown
      go_wp2_with fail
      refine (same_b _ _ _ _ _ _ _ xs _ (T1.out) ((hx.fresh B1.out)) true (by rw [tickL_out (by omega)]; simp)).mono ?_
      rintro e v2 ⟨rfl, hb⟩
      have B2 := Lib.hid (bgo (B1.out) hb)
      clear hb T1 B1
      have hs2 := B2.out.size
      go_wp2_with (at_make; refine wpl_make el_i64 rfl (.const (.int .i64 64)) (.const (.int .i64 64)) rfl rfl rfl (n := 64) rfl rfl (by omega) ?_)
      intro w3 hown3 hb3
      obtain ⟨g, hg⟩ : ∃ g, g = v2.heap.size := ⟨_, rfl⟩
      rw [← hg] at hown3 ⊢
      have hgs : w.heap.size ≤ g := by omega
      have hfz := World.ownsRow.frozenAt hown3 63
      have hrd := own_rd hown3
      have hcx := hrd.intCell 63 (by omega)
      simp only [blk_some, off_some, Nat.zero_add] at hcx
      have S3 := Lib.hid (own_rd (World.ownsRow.stored hown3 63 (.int .i64 9223372036854775807)).1)
      have T3 : Hid (Below w.heap.size w (w3.setCell ⟨g, 63, none⟩ (.int .i64 9223372036854775807))) := (bgo B2.out hb3).setCell (p := ⟨g, 63, none⟩) hgs _
      clear hrd hown3 hb3 B2 hg hs2
      go_upto_region 9 with (fail)
      have F3 : Hid (Rd (w3.setCell ⟨g, 63, none⟩ (.int .i64 9223372036854775807)) 1 (some ⟨g, 0, none⟩) 64 64 (ints .i64 fullL)) := S3.out
      clear S3 hfz hcx
      generalize w3.setCell ⟨g, 63, none⟩ (.int .i64 9223372036854775807) = w4 at *
      clear hgs
      go_wp2_with fail
      refine (tick_any _ 64 64 fullL 63 _ (F3.out) wf_full (by omega)).mono ?_
      rintro e v4 ⟨hb, ao4, n4, cap4, rfl, hown⟩
      have B4 := Lib.hid (bgo (T3.out) hb)
      have F4 := Lib.hid (F3.out.fresh hb)
      have G4 := Lib.hid (own_rd hown)
      clear hb hown F3 T3
      go_wp2_with fail
      refine (same_b _ _ _ _ _ _ _ _ _ (G4.out) (F4.out) true (by rw [full_tick]; simp)).mono ?_
      rintro e v5 ⟨rfl, hb⟩
      have B5 := Lib.hid (bgo (B4.out) hb)
      clear hb F4 G4 B4
      go_wp2_with fail
      refine (tick_any _ n c1 xs 63 _ ((hx.fresh B5.out)) hwx (by omega)).mono ?_
      rintro e v6 ⟨hb, ao6, n6, cap6, rfl, hown⟩
      have B6 := Lib.hid (bgo (B5.out) hb)
      have A6 := Lib.hid (own_rd hown)
      clear hb hown B5
      have hn6 : n6 = 64 := by have := A6.out.intLen; have := hlx.out; rw [tickL_in (by omega) (by omega), tickAt_length] at *; omega
      subst hn6
      clear A6
      go_wp2_with fail
      refine (tick_any _ n c1 xs 63 _ ((hx.fresh B6.out)) hwx (by omega)).mono ?_
      rintro e v7 ⟨hb, ao7, n7, cap7, rfl, hown⟩
      have B7 := Lib.hid (bgo (B6.out) hb)
      have A7 := Lib.hid (own_rd hown)
      clear hb hown B6
      have hn7 : n7 = 64 := by have := A7.out.intLen; have := hlx.out; rw [tickL_in (by omega) (by omega), tickAt_length] at *; omega
      subst hn7
      have hix := idx_run (P := Try.prog) A7.out Try.underlying22 el_i64.sz .i64
      have hcx := A7.out.intCell 63 (by omega)
      have h1 : gi (tickL xs 63) 63 = 1 := by rw [tickL_in (by omega) (by omega)]; show gi (tickAt xs 63) 63 = 1; rw [gi_tickAt, gi_ge (xs := xs) (by have := hlx.out; omega)]; rfl
      rw [h1] at hcx
      clear h1
      go_wp2_with fail
      refine (awake_any _).mono ?_
      rintro e v8 ⟨rfl, hb⟩
      have B8 := Lib.hid (bgo (B7.out) hb)
      have A8 := Lib.hid (A7.out.fresh hb)
      clear hb A7 B7
      go_wp2_with fail
      go_ret
      exact ⟨rfl, B8.out⟩
    · have hb0 : decide (0 ≤ t) = false := by simpa using ha
      go_enter Try.func7, Try.ntmps7
      go_wp2_with fail
      refine (tick_out _ n c1 xs t _ ((hx)) (by omega) (by omega)).mono ?_
      rintro e v1 ⟨hb, ao1, n1, cap1, rfl, hown⟩
      have B1 := Lib.hid (bgo (brefl _) hb)
      have T1 := Lib.hid (own_rd hown)
      clear hb hown
      go_wp2_with fail
      refine (same_b _ _ _ _ _ _ _ xs _ (T1.out) ((hx.fresh B1.out)) true (by rw [tickL_out (by omega)]; simp)).mono ?_
      rintro e v2 ⟨rfl, hb⟩
      have B2 := Lib.hid (bgo (B1.out) hb)
      clear hb T1 B1
      have hs2 := B2.out.size
      go_wp2_with (at_make; refine wpl_make el_i64 rfl (.const (.int .i64 64)) (.const (.int .i64 64)) rfl rfl rfl (n := 64) rfl rfl (by omega) ?_)
      intro w3 hown3 hb3
      obtain ⟨g, hg⟩ : ∃ g, g = v2.heap.size := ⟨_, rfl⟩
      rw [← hg] at hown3 ⊢
      have hgs : w.heap.size ≤ g := by omega
      have hfz := World.ownsRow.frozenAt hown3 63
      have hrd := own_rd hown3
      have hcx := hrd.intCell 63 (by omega)
      simp only [blk_some, off_some, Nat.zero_add] at hcx
      have S3 := Lib.hid (own_rd (World.ownsRow.stored hown3 63 (.int .i64 9223372036854775807)).1)
      have T3 : Hid (Below w.heap.size w (w3.setCell ⟨g, 63, none⟩ (.int .i64 9223372036854775807))) := (bgo B2.out hb3).setCell (p := ⟨g, 63, none⟩) hgs _
      clear hrd hown3 hb3 B2 hg hs2
      go_upto_region 9 with (fail)
      have F3 : Hid (Rd (w3.setCell ⟨g, 63, none⟩ (.int .i64 9223372036854775807)) 1 (some ⟨g, 0, none⟩) 64 64 (ints .i64 fullL)) := S3.out
      clear S3 hfz hcx
      generalize w3.setCell ⟨g, 63, none⟩ (.int .i64 9223372036854775807) = w4 at *
      clear hgs
      go_wp2_with fail
      refine (tick_any _ 64 64 fullL 63 _ (F3.out) wf_full (by omega)).mono ?_
      rintro e v4 ⟨hb, ao4, n4, cap4, rfl, hown⟩
      have B4 := Lib.hid (bgo (T3.out) hb)
      have F4 := Lib.hid (F3.out.fresh hb)
      have G4 := Lib.hid (own_rd hown)
      clear hb hown F3 T3
      go_wp2_with fail
      refine (same_b _ _ _ _ _ _ _ _ _ (G4.out) (F4.out) true (by rw [full_tick]; simp)).mono ?_
      rintro e v5 ⟨rfl, hb⟩
      have B5 := Lib.hid (bgo (B4.out) hb)
      clear hb F4 G4 B4
      go_wp2_with fail
      refine (tick_any _ n c1 xs 63 _ ((hx.fresh B5.out)) hwx (by omega)).mono ?_
      rintro e v6 ⟨hb, ao6, n6, cap6, rfl, hown⟩
      have B6 := Lib.hid (bgo (B5.out) hb)
      have A6 := Lib.hid (own_rd hown)
      clear hb hown B5
      have hn6 : n6 = 64 := by have := A6.out.intLen; have := hlx.out; rw [tickL_in (by omega) (by omega), tickAt_length] at *; omega
      subst hn6
      clear A6
      go_wp2_with fail
      refine (tick_any _ n c1 xs 63 _ ((hx.fresh B6.out)) hwx (by omega)).mono ?_
      rintro e v7 ⟨hb, ao7, n7, cap7, rfl, hown⟩
      have B7 := Lib.hid (bgo (B6.out) hb)
      have A7 := Lib.hid (own_rd hown)
      clear hb hown B6
      have hn7 : n7 = 64 := by have := A7.out.intLen; have := hlx.out; rw [tickL_in (by omega) (by omega), tickAt_length] at *; omega
      subst hn7
      have hix := idx_run (P := Try.prog) A7.out Try.underlying22 el_i64.sz .i64
      have hcx := A7.out.intCell 63 (by omega)
      have h1 : gi (tickL xs 63) 63 = 1 := by rw [tickL_in (by omega) (by omega)]; show gi (tickAt xs 63) 63 = 1; rw [gi_tickAt, gi_ge (xs := xs) (by have := hlx.out; omega)]; rfl
      rw [h1] at hcx
      clear h1
      go_wp2_with fail
      refine (awake_any _).mono ?_
      rintro e v8 ⟨rfl, hb⟩
      have B8 := Lib.hid (bgo (B7.out) hb)
      have A8 := Lib.hid (A7.out.fresh hb)
      clear hb A7 B7
      go_wp2_with fail
      go_ret
      exact ⟨rfl, B8.out⟩
    · have hb0 : 0 ≤ t := by omega
      have hb1 : decide (t < 64) = false := by simpa using ha
      go_enter Try.func7, Try.ntmps7
      go_wp2_with fail
      refine (tick_out _ n c1 xs t _ ((hx)) (by omega) (by omega)).mono ?_
      rintro e v1 ⟨hb, ao1, n1, cap1, rfl, hown⟩
      have B1 := Lib.hid (bgo (brefl _) hb)
      have T1 := Lib.hid (own_rd hown)
      clear hb hown
      go_wp2_with fail
      refine (same_b _ _ _ _ _ _ _ xs _ (T1.out) ((hx.fresh B1.out)) true (by rw [tickL_out (by omega)]; simp)).mono ?_
      rintro e v2 ⟨rfl, hb⟩
      have B2 := Lib.hid (bgo (B1.out) hb)
      clear hb T1 B1
      have hs2 := B2.out.size
      go_wp2_with (at_make; refine wpl_make el_i64 rfl (.const (.int .i64 64)) (.const (.int .i64 64)) rfl rfl rfl (n := 64) rfl rfl (by omega) ?_)
      intro w3 hown3 hb3
      obtain ⟨g, hg⟩ : ∃ g, g = v2.heap.size := ⟨_, rfl⟩
      rw [← hg] at hown3 ⊢
      have hgs : w.heap.size ≤ g := by omega
      have hfz := World.ownsRow.frozenAt hown3 63
      have hrd := own_rd hown3
      have hcx := hrd.intCell 63 (by omega)
      simp only [blk_some, off_some, Nat.zero_add] at hcx
      have S3 := Lib.hid (own_rd (World.ownsRow.stored hown3 63 (.int .i64 9223372036854775807)).1)
      have T3 : Hid (Below w.heap.size w (w3.setCell ⟨g, 63, none⟩ (.int .i64 9223372036854775807))) := (bgo B2.out hb3).setCell (p := ⟨g, 63, none⟩) hgs _
      clear hrd hown3 hb3 B2 hg hs2
      go_upto_region 9 with (fail)
      have F3 : Hid (Rd (w3.setCell ⟨g, 63, none⟩ (.int .i64 9223372036854775807)) 1 (some ⟨g, 0, none⟩) 64 64 (ints .i64 fullL)) := S3.out
      clear S3 hfz hcx
      generalize w3.setCell ⟨g, 63, none⟩ (.int .i64 9223372036854775807) = w4 at *
      clear hgs
      go_wp2_with fail
      refine (tick_any _ 64 64 fullL 63 _ (F3.out) wf_full (by omega)).mono ?_
      rintro e v4 ⟨hb, ao4, n4, cap4, rfl, hown⟩
      have B4 := Lib.hid (bgo (T3.out) hb)
      have F4 := Lib.hid (F3.out.fresh hb)
      have G4 := Lib.hid (own_rd hown)
      clear hb hown F3 T3
      go_wp2_with fail
      refine (same_b _ _ _ _ _ _ _ _ _ (G4.out) (F4.out) true (by rw [full_tick]; simp)).mono ?_
      rintro e v5 ⟨rfl, hb⟩
      have B5 := Lib.hid (bgo (B4.out) hb)
      clear hb F4 G4 B4
      go_wp2_with fail
      refine (tick_any _ n c1 xs 63 _ ((hx.fresh B5.out)) hwx (by omega)).mono ?_
      rintro e v6 ⟨hb, ao6, n6, cap6, rfl, hown⟩
      have B6 := Lib.hid (bgo (B5.out) hb)
      have A6 := Lib.hid (own_rd hown)
      clear hb hown B5
      have hn6 : n6 = 64 := by have := A6.out.intLen; have := hlx.out; rw [tickL_in (by omega) (by omega), tickAt_length] at *; omega
      subst hn6
      clear A6
      go_wp2_with fail
      refine (tick_any _ n c1 xs 63 _ ((hx.fresh B6.out)) hwx (by omega)).mono ?_
      rintro e v7 ⟨hb, ao7, n7, cap7, rfl, hown⟩
      have B7 := Lib.hid (bgo (B6.out) hb)
      have A7 := Lib.hid (own_rd hown)
      clear hb hown B6
      have hn7 : n7 = 64 := by have := A7.out.intLen; have := hlx.out; rw [tickL_in (by omega) (by omega), tickAt_length] at *; omega
      subst hn7
      have hix := idx_run (P := Try.prog) A7.out Try.underlying22 el_i64.sz .i64
      have hcx := A7.out.intCell 63 (by omega)
      have h1 : gi (tickL xs 63) 63 = 1 := by rw [tickL_in (by omega) (by omega)]; show gi (tickAt xs 63) 63 = 1; rw [gi_tickAt, gi_ge (xs := xs) (by have := hlx.out; omega)]; rfl
      rw [h1] at hcx
      clear h1
      go_wp2_with fail
      refine (awake_any _).mono ?_
      rintro e v8 ⟨rfl, hb⟩
      have B8 := Lib.hid (bgo (B7.out) hb)
      have A8 := Lib.hid (A7.out.fresh hb)
      clear hb A7 B7
      go_wp2_with fail
      go_ret
      exact ⟨rfl, B8.out⟩
end Go.Proofs.Ytonenaahmicacaa
