/-
  BytesNoughts's walk: it tells true of all bytes and any number of noughts. Condition: the reach alone.
-/
import Derived.Test.YtmjoneiagfegdaaBytesA
set_option linter.unusedVariables false
namespace Go.Proofs.Ytmjoneiagfegdaa
open Go.RowKit Go.Am

theorem ints_bytes (n : Nat) : ints .u8 (List.replicate n 0) = bytesC (List.replicate n 0) := by simp [ints, bytesC]

set_option maxRecDepth 100000 in
set_option maxHeartbeats 2000000 in
theorem noughts_any (ao : Option Addr) (n cap k : Nat) (xs : List UInt8) (w : World) (hx : Rd w 1 ao n cap (bytesC xs)) (hk : k < 256) :
    Calls Try.prog 5 #[.slice ao n cap, .int .u8 (k : Int)] w fun e w' => e = .returned (.bool true) ∧ Below w.heap.size w w' := by
  by_cases h300 : 300 < n
  · clear hx
    go_enter Try.func5, Try.ntmps5
    go_wp2_with fail
    refine (awake_any _).mono ?_
    rintro e w' ⟨rfl, hb⟩
    have Hb := Lib.hid hb; clear hb
    go_wp2_with fail
    go_ret
    exact ⟨rfl, Hb.out⟩
  · obtain ⟨K, hK⟩ : ∃ K : Nat, 1 + (k : Int) % 200 = (K : Int) := ⟨1 + k % 200, by omega⟩
    have hK1 : 1 ≤ K := by omega
    have hK2 : K ≤ 200 := by omega
    have Hah := Lib.hid (crc_ahead hK1 hK2 xs)
    have Hbe := Lib.hid (crc_behind hK1 hK2 xs)
    obtain ⟨S, hS⟩ : ∃ S, crc xs = S := ⟨_, rfl⟩
    obtain ⟨A, hA⟩ : ∃ A, crc (List.replicate K 0 ++ xs) = A := ⟨_, rfl⟩
    obtain ⟨B, hB⟩ : ∃ B, crc (xs ++ List.replicate K 0) = B := ⟨_, rfl⟩
    rw [hA, hS] at Hah
    rw [hB, hS] at Hbe
    have HS := Lib.hid hS
    have HA := Lib.hid hA
    have HB := Lib.hid hB
    clear hS hA hB
    go_enter Try.func5, Try.ntmps5
    go_wp2_with (at_make; refine wpl_make el_u8 rfl (.tmp 16) (.tmp 16) rfl rfl rfl (n := K) (by first | rfl | exact hK) (by first | rfl | exact hK) (by omega) ?_)
    intro w1 hown1 hb1
    rw [ints_bytes] at hown1
    have B1 := Lib.hid hb1
    have R1 := Lib.hid (own_rd hown1)
    have X1 := Lib.hid (hx.fresh hb1)
    clear hown1 hb1 hx
    go_wp2_with fail
    refine (crc_any ao n cap xs w1 X1.out).mono ?_
    rintro e w' ⟨rfl, rfl⟩
    rw [HS.out]
    go_wp2_with (at_builtin; refine wpl_append el_u8 rfl (.tmp 20) (.tmp 21) rfl rfl (World.ownsRow_lit w1 #[] 0 (Nat.le_refl _) (by decide) rfl) rfl (R1.out.fresh (alc _ _)) (bytesC_one _) (by omega) (by simp) ?_)
    intro aow2 capw2 w2 hown hg
    have Bw2 := Lib.hid (bgo B1.out ((alc w1 _).grown hg (by simp) (fun k hk => by simp [Value.ownBlock] at hk; omega)))
    have Nw2 := Lib.hid ((alc w1 (.cells #[] 5)).grown hg (by simp) (fun k hk => by simp [Value.ownBlock] at hk; omega))
    have Ow2 : Hid (w2.ownsRow w1.heap.size 5 1 (.slice aow2 K capw2) K (bytesC (List.replicate K 0))) := by show World.ownsRow _ _ _ _ _ _ _; simpa using hown
    clear hown hg
    go_wp2_with (at_builtin; refine wpl_append el_u8 rfl (.tmp 22) (.tmp 23) rfl rfl Ow2.out rfl (X1.out.fresh Nw2.out) (bytesC_one _) (by omega) Nw2.out.size ?_)
    intro aow3 capw3 w3 hown hg
    rw [← bytesC_append] at hown
    have Nw3 := Lib.hid (Nw2.out.grown hg Nw2.out.size (fun k hk => (Ow2.out.lt k hk).1))
    have Bw3 := Lib.hid (bgo B1.out Nw3.out)
    have Rw3 := Lib.hid (own_rd hown)
    clear hown hg Ow2 Nw2 Bw2
    go_wp2_with fail
    refine (crc_any aow3 _ capw3 _ w3 Rw3.out).mono ?_
    rintro e w' ⟨rfl, rfl⟩
    rw [HA.out]
    have R5 := Lib.hid (R1.out.fresh Nw3.out)
    have X5 := Lib.hid (X1.out.fresh Nw3.out)
    clear R1 X1 Rw3
    go_wp2_with (at_builtin; refine wpl_append el_u8 rfl (.tmp 26) (.tmp 27) rfl rfl (World.ownsRow_lit w3 #[] 0 (Nat.le_refl _) (by decide) rfl) rfl (X5.out.fresh (alc _ _)) (bytesC_one _) (by omega) (by simp) ?_)
    intro aow6 capw6 w6 hown hg
    have Bw6 := Lib.hid (bgo Bw3.out ((alc w3 _).grown hg (by simp) (fun k hk => by simp [Value.ownBlock] at hk; omega)))
    have Nw6 := Lib.hid ((alc w3 (.cells #[] 5)).grown hg (by simp) (fun k hk => by simp [Value.ownBlock] at hk; omega))
    have Ow6 : Hid (w6.ownsRow w3.heap.size 5 1 (.slice aow6 n capw6) n (bytesC xs)) := by show World.ownsRow _ _ _ _ _ _ _; simpa using hown
    clear hown hg
    go_wp2_with (at_builtin; refine wpl_append el_u8 rfl (.tmp 28) (.tmp 29) rfl rfl Ow6.out rfl (R5.out.fresh Nw6.out) (bytesC_one _) (by omega) Nw6.out.size ?_)
    intro aow7 capw7 w7 hown hg
    rw [← bytesC_append] at hown
    have Nw7 := Lib.hid (Nw6.out.grown hg Nw6.out.size (fun k hk => (Ow6.out.lt k hk).1))
    have Bw7 := Lib.hid (bgo Bw3.out Nw7.out)
    have Rw7 := Lib.hid (own_rd hown)
    clear hown hg Ow6 Nw6 Bw6
    go_wp2_with fail
    refine (crc_any aow7 _ capw7 _ w7 Rw7.out).mono ?_
    rintro e w' ⟨rfl, rfl⟩
    rw [HB.out]
    have hne : ((A : Int) != (S : Int)) = true := by simp; intro h; exact Hah.out (by omega)
    clear R5 X5 Rw7
    by_cases hS : S = 4294967295
    · have hBS := Hbe.out.2 hS
      subst hS
      subst hBS
      have hne2 : ((A : Int) != 4294967295) = true := hne
      clear Hbe Hah hne
      go_wp2_with fail
      refine (awake_any _).mono ?_
      rintro e w9 ⟨rfl, hb9⟩
      have B9 := Lib.hid (bgo Bw7.out hb9)
      clear hb9
      go_wp2_with fail
      go_ret
      exact ⟨rfl, B9.out⟩
    · have hB1 : ((B : Int) == (S : Int)) = false := by simp; intro h; exact hS (Hbe.out.1 (by omega))
      have hS1 : ((S : Int) == 4294967295) = false := by simp; omega
      clear Hbe Hah hS
      go_wp2_with fail
      refine (awake_any _).mono ?_
      rintro e w9 ⟨rfl, hb9⟩
      have B9 := Lib.hid (bgo Bw7.out hb9)
      clear hb9
      go_wp2_with fail
      go_ret
      exact ⟨rfl, B9.out⟩
end Go.Proofs.Ytmjoneiagfegdaa
