/-
  What the small helpers of the clock's statements compute: Same, at, above, Pick. Condition: the lists' bytes are within 2^47.
-/
import Derived.Test.YtonenaahmicacaaClockR
set_option linter.unusedVariables false
namespace Go.Proofs.Ytonenaahmicacaa
open Go.RowKit Go.Am

set_option maxHeartbeats 400000 in
theorem at_any (ao : Option Addr) (n cap : Nat) (xs : List Int) (i : Nat) (w : World) (hx : Rd w 1 ao n cap (ints .i64 xs)) :
    Calls Try.prog 16 #[.slice ao n cap, .int .i64 i] w fun e w' => e = .returned (.int .i64 (gi xs i)) ∧ w = w' := by
  have hix := idx_run (P := Try.prog) hx Try.underlying22 el_i64.sz .i64
  have hc := hx.intCell
  have hl := hx.intLen
  have hl1 := hx.lecap
  have hl2 := hx.lemax
  have Hl := Lib.hid hl; clear hl hx
  by_cases h : i < n
  · go_enter Try.func16, Try.ntmps16
    go_wp2
    go_ret
    exact ⟨rfl, rfl⟩
  · have h0 : gi xs i = 0 := gi_ge (by have := Hl.out; omega)
    have H0 := Lib.hid h0; clear h0
    go_enter Try.func16, Try.ntmps16
    go_wp2
    go_ret
    exact ⟨by rw [H0.out]; rfl, rfl⟩

set_option maxHeartbeats 400000 in
theorem same_len (ao ao2 : Option Addr) (n n2 cap cap2 : Nat) (xs ys : List Int) (w : World) (hx : Rd w 1 ao n cap (ints .i64 xs)) (hy : Rd w 1 ao2 n2 cap2 (ints .i64 ys)) (hne : n ≠ n2) :
    Calls Try.prog 9 #[.slice ao n cap, .slice ao2 n2 cap2] w fun e w' => e = .returned (.bool false) ∧ ∃ m, w' = w.drewN m := by
  have ht : ((n : Int) != (n2 : Int)) = true := by simp; omega
  clear hx hy
  go_enter Try.func9, Try.ntmps9
  go_wp2
  go_ret
  exact ⟨rfl, 0, rfl⟩

set_option maxHeartbeats 400000 in
theorem same_any (ao ao2 : Option Addr) (n n2 cap cap2 : Nat) (xs ys : List Int) (w : World) (hx : Rd w 1 ao n cap (ints .i64 xs)) (hy : Rd w 1 ao2 n2 cap2 (ints .i64 ys)) (b : Bool) (hq : decide (xs = ys) = b) :
    Calls Try.prog 9 #[.slice ao n cap, .slice ao2 n2 cap2] w fun e w' => e = .returned (.bool b) ∧ ∃ m, w' = w.drewN m := by
  by_cases hne : n = n2
  case neg =>
    have hl := hx.intLen
    have hl2 := hy.intLen
    have hf : decide (xs = ys) = false := by simp; intro h; subst h; omega
    rw [hf] at hq
    subst hq
    exact same_len ao ao2 n n2 cap cap2 xs ys w hx hy hne
  subst hne
  have hl3 := hx.lecap
  have hl4 := hx.lemax
  have hix := idx_run (P := Try.prog) hx Try.underlying22 el_i64.sz .i64
  have hiy := idx_run (P := Try.prog) hy Try.underlying22 el_i64.sz .i64
  have hcx := hx.intCell
  have hcy := hy.intCell
  have Hl := Lib.hid hx.intLen
  have Hl2 := Lib.hid hy.intLen
  have Hq := Lib.hid hq; clear hq
  clear hx hy
  go_enter Try.func9, Try.ntmps9
  go_wp2
  go_loopw [13] (fun i wr => ∃ k : Nat, k ≤ n ∧ i = .int .i64 k ∧ Hid (∀ j, j < k → gi xs j = gi ys j) ∧ ∃ m, wr = w.drewN m) (fun i _ => n - (intOf i).toNat)
  case atStart => exact ⟨0, by omega, rfl, fun j h => absurd h (by omega), 0, rfl⟩
  case round =>
    obtain ⟨k, hk, rfl, hs, m, rfl⟩ := hrel
    by_cases hlt : k < n
    · by_cases he : gi xs k = gi ys k
      · have hd : (gi xs k != gi ys k) = false := by simpa using he
        have He := Lib.hid he; clear he
        go_wp2
        go_quiet (fail)
        go_wp2
        go_roundw
        case rel => exact ⟨k + 1, by omega, by go_num, fun j hj => by
          by_cases e : j = k
          · subst e; exact He.out
          · exact hs.out j (by omega), m + nq, rfl⟩
        case measure => show n - ((k : Int) + 1).toNat < n - (k : Int).toNat; omega
      · have hd : (gi xs k != gi ys k) = true := by simpa using he
        have hf : b = false := by rw [← Hq.out]; simp; intro h; subst h; exact he rfl
        clear he
        have Hf := Lib.hid hf; clear hf
        go_wp2
        go_quiet (fail)
        go_wp2
        go_ret
        exact ⟨by rw [Hf.out]; rfl, m + nq, World.drewN_drewN _ _ _⟩
    · have hf : b = true := by rw [← Hq.out]; simp; exact ext_gi (Hl.out.trans Hl2.out.symm) fun i hi => hs.out i (by have := Hl.out; omega)
      have Hf := Lib.hid hf; clear hf
      go_wp2
      go_ret
      exact ⟨by rw [Hf.out]; rfl, m, rfl⟩

theorem same_b (ao ao2 : Option Addr) (n n2 cap cap2 : Nat) (xs ys : List Int) (w : World) (hx : Rd w 1 ao n cap (ints .i64 xs)) (hy : Rd w 1 ao2 n2 cap2 (ints .i64 ys)) (b : Bool) (hq : decide (xs = ys) = b) :
    Calls Try.prog 9 #[.slice ao n cap, .slice ao2 n2 cap2] w fun e w' => e = .returned (.bool b) ∧ Below w.heap.size w w' :=
  (same_any ao ao2 n n2 cap cap2 xs ys w hx hy b hq).mono fun _ _ ⟨he, m, hm⟩ => ⟨he, hm ▸ drn w m⟩

/-- each number, 0 at least -/
def aboveL (xs : List Int) : List Int := xs.map fun x => max x 0
theorem above_step {xs : List Int} {k n : Nat} (hl : xs.length = n) (hk : k < n) {z : Int} (hz : z = max (gi xs k) 0) :
    ints .i64 (aboveL (xs.take k)) ++ [Value.int .i64 z] = ints .i64 (aboveL (xs.take (k + 1))) := by
  rw [List.take_succ_eq_append_getElem (by omega)]
  unfold aboveL
  rw [List.map_append, ints_append, hz, gi_lt (by omega)]
  rfl

set_option maxHeartbeats 400000 in
theorem above_any (ao : Option Addr) (n cap : Nat) (xs : List Int) (w : World) (hx : Rd w 1 ao n cap (ints .i64 xs)) (hb : (n + 1) * 8 ≤ 140737488355328) :
    Calls Try.prog 17 #[.slice ao n cap] w fun e w' => Below w.heap.size w w' ∧
      ∃ ao' n' cap', e = .returned (.slice ao' n' cap') ∧ w'.ownsRow w.heap.size 2 1 (.slice ao' n' cap') n' (ints .i64 (aboveL xs)) := by
  have hl3 := hx.lecap
  have hl4 := hx.lemax
  have hix := idx_run (P := Try.prog) hx Try.underlying22 el_i64.sz .i64
  have Hl := Lib.hid hx.intLen
  go_enter Try.func17, Try.ntmps17
  go_wp2_with fail
  go_loopw [3, 8] (fun v i wr => ∃ k : Nat, k ≤ n ∧ i = .int .i64 k ∧ ∃ ao' cap', v = .slice ao' k cap' ∧ Hid (Below w.heap.size w wr ∧ wr.ownsRow w.heap.size 2 1 (.slice ao' k cap') k (ints .i64 (aboveL (xs.take k))))) (fun _ i _ => n - (intOf i).toNat)
  case atStart => exact ⟨0, by omega, rfl, none, 0, rfl, Below.refl _ _, World.ownsRow_nil _ _ _ _⟩
  case round =>
    obtain ⟨k, hk, rfl, ao', cap', rfl, H⟩ := hrel
    have hcx := (hx.fresh H.out.1).intCell
    have hbw := H.out.1.size
    by_cases hlt : k < n
    · obtain ⟨z, hz⟩ : ∃ z, z = max (gi xs k) 0 := ⟨_, rfl⟩
      have hmx : (if gi xs k < 0 then 0 else gi xs k) = z := by split <;> omega
      have Hs := Lib.hid (above_step Hl.out hlt hz); clear hz
      go_wp2_with (at_builtin; refine wpl_append el_i64 rfl (.tmp 12) (.tmp 15) rfl rfl (H.out.2.alloc _) rfl (Rd.new wr 1 1 #[.int .i64 z] _ rfl (by omega)) (by intro u hu; simp at hu; subst hu; rfl) (by omega) (by simp; omega) ?_)
      intro ao3 cap3 w2 hown2 hg
      have hb2 : Below w.heap.size w w2 := (H.out.1.alloc (by omega) _).grown hg (by simp; omega) (fun b hb => (H.out.2.lt b hb).1)
      rw [Hs.out] at hown2
      have H2 := Lib.hid (And.intro hb2 hown2); clear hb2 hown2 hg
      go_wp2_with fail
      go_roundw
      case rel => exact ⟨k + 1, by omega, by go_num, ao3, cap3, rfl, H2⟩
      case measure => simp [intOf]; omega
    · have hke : xs.take k = xs := List.take_of_length_le (by have := Hl.out; omega)
      have hr := H.out
      rw [hke] at hr
      have Hr := Lib.hid hr; clear hr hke
      go_wp2_with fail
      go_ret
      exact ⟨Hr.out.1, ao', k, cap', rfl, Hr.out.2⟩

/-- a place below n out of any number -/
def pickI (x n : Int) : Int := if n < 1 then 0 else if x.tmod n < 0 then x.tmod n + n else x.tmod n
theorem pickI_emod {x n : Int} (h : 1 ≤ n) : pickI x n = x % n := by
  unfold pickI
  rw [if_neg (by omega)]
  have h1 := Int.emod_nonneg x (show n ≠ 0 by omega)
  have h2 := Int.emod_lt_of_pos x (show 0 < n by omega)
  have h3 : x.tmod n = if 0 ≤ x ∨ n ∣ x then x % n else x % n - n := by
    rw [Int.tmod_eq_emod]
    split
    · rename_i h; simp
    · rename_i h; congr 1; omega
  rw [h3]
  split
  · rw [if_neg (by omega)]
  · rw [if_pos (by omega)]; omega
theorem pickI_bd {x n : Int} (h : 1 ≤ n) : 0 ≤ pickI x n ∧ pickI x n < n := by
  rw [pickI_emod h]
  exact ⟨Int.emod_nonneg x (by omega), Int.emod_lt_of_pos x (by omega)⟩

set_option maxHeartbeats 400000 in
theorem pick_any (x n : Int) (w : World) (h : 1 ≤ n) (hn : n ≤ 9223372036854775807) (b1 : -9223372036854775808 ≤ x) (b2 : x ≤ 9223372036854775807) :
    Calls Try.prog 18 #[.int .i64 x, .int .i64 n] w fun e w' => e = .returned (.int .i64 (pickI x n)) ∧ w = w' := by
  have hp : pickI x n = if x.tmod n < 0 then x.tmod n + n else x.tmod n := by unfold pickI; rw [if_neg (by omega)]
  have hbd := pickI_bd (x := x) h
  have h1 : -n < x.tmod n := by have := Int.tmod_lt_of_pos (-x) (show 0 < n by omega); rw [Int.neg_tmod] at this; omega
  have h2 : x.tmod n < n := Int.tmod_lt_of_pos x (show 0 < n by omega)
  have Hp := Lib.hid (And.intro hp hbd); clear hp hbd
  by_cases hx : x < 0
  · by_cases ht : x.tmod n < 0
    · have Hr : Hid (pickI x n = x.tmod n + n) := by have := Hp.out.1; rw [if_pos ht] at this; exact this
      go_enter Try.func18, Try.ntmps18
      go_wp2
      go_ret
      exact ⟨by rw [Hr.out]; rfl, rfl⟩
    · have Hr : Hid (pickI x n = x.tmod n) := by have := Hp.out.1; rw [if_neg ht] at this; exact this
      go_enter Try.func18, Try.ntmps18
      go_wp2
      go_ret
      exact ⟨by rw [Hr.out]; rfl, rfl⟩
  · have Hr : Hid (pickI x n = x % n) := pickI_emod h
    have hm1 := Int.emod_nonneg x (show n ≠ 0 by omega)
    go_enter Try.func18, Try.ntmps18
    go_wp2
    go_ret
    exact ⟨by rw [Hr.out]; rfl, rfl⟩
end Go.Proofs.Ytonenaahmicacaa
