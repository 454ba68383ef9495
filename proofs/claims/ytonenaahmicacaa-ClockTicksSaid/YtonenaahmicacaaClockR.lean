/-
  What the document's answer for clocks (amanuensisref15) and the statements' small helpers compute. Condition: the lists' bytes are within 2^47.
-/
import Derived.Test.YtonenaahmicacaaClockT
set_option linter.unusedVariables false
namespace Go.Proofs.Ytonenaahmicacaa
open Go.RowKit Go.Am

set_option maxHeartbeats 400000 in
theorem refat_any (ao : Option Addr) (n cap : Nat) (xs : List Int) (i : Nat) (w : World) (hx : Rd w 1 ao n cap (ints .i64 xs)) :
    Calls Try.prog 21 #[.slice ao n cap, .int .i64 i] w fun e w' => e = .returned (.int .i64 (gi xs i)) ∧ w = w' := by
  have hix := idx_run (P := Try.prog) hx Try.underlying22 el_i64.sz .i64
  have hc := hx.intCell
  have hl := hx.intLen
  have hl1 := hx.lecap
  have hl2 := hx.lemax
  have Hl := Lib.hid hl; clear hl hx
  by_cases h : i < n
  · go_enter Try.func21, Try.ntmps21
    go_wp2
    go_ret
    exact ⟨rfl, rfl⟩
  · have h0 : gi xs i = 0 := gi_ge (by have := Hl.out; omega)
    have H0 := Lib.hid h0; clear h0
    go_enter Try.func21, Try.ntmps21
    go_wp2
    go_ret
    exact ⟨by rw [H0.out]; rfl, rfl⟩

set_option maxHeartbeats 400000 in
theorem refleq_any (ao bo : Option Addr) (n m c1 c2 : Nat) (xs ys : List Int) (w : World) (hx : Rd w 1 ao n c1 (ints .i64 xs)) (hy : Rd w 1 bo m c2 (ints .i64 ys)) (b : Bool) (hq : leqB xs ys = b) :
    Calls Try.prog 13 #[.slice ao n c1, .slice bo m c2] w fun e w' => e = .returned (.bool b) ∧ w = w' := by
  have hlx := Lib.hid hx.intLen
  have hly := Lib.hid hy.intLen
  have Hq := Lib.hid hq; clear hq
  have hl1 := hx.lecap
  have hl2 := hx.lemax
  have hl3 := hy.lecap
  have hl4 := hy.lemax
  go_enter Try.func13, Try.ntmps13
  go_wp2_with fail
  go_loop [5] (fun i => ∃ k : Nat, k ≤ max n m ∧ i = .int .i64 k ∧ Hid (∀ j, j < k → gi xs j ≤ gi ys j)) (fun i => max n m - (intOf i).toNat)
  case atStart => exact ⟨0, by omega, rfl, fun j h => absurd h (by omega)⟩
  case round =>
    obtain ⟨k, hk, rfl, hg⟩ := hrel
    by_cases h1 : k < n
    · cases hd : decide (gi ys k < gi xs k)
      · go_wp2_with fail
        refine (refat_any ao n c1 xs k w hx).mono ?_
        rintro e w' ⟨rfl, rfl⟩
        go_wp2_with fail
        refine (refat_any bo m c2 ys k w hy).mono ?_
        rintro e w' ⟨rfl, rfl⟩
        go_wp2_with fail
        go_round
        case rel => exact ⟨k + 1, by omega, by go_num, fun j hj => by
          by_cases e : j = k
          · subst e; simp at hd; omega
          · exact hg.out j (by omega)⟩
        case measure => simp [intOf]; omega
      · have hf : leqB xs ys = false := leqB_false (i := k) (by simpa using hd)
        have Hf := Lib.hid (hf.symm.trans Hq.out); clear hf
        go_wp2_with fail
        refine (refat_any ao n c1 xs k w hx).mono ?_
        rintro e w' ⟨rfl, rfl⟩
        go_wp2_with fail
        refine (refat_any bo m c2 ys k w hy).mono ?_
        rintro e w' ⟨rfl, rfl⟩
        go_wp2_with fail
        go_ret
        exact ⟨by rw [← Hf.out]; rfl, rfl⟩
    · have h1' : decide (k < n) = false := by simpa using h1
      by_cases h2 : k < m
      · cases hd : decide (gi ys k < gi xs k)
        · go_wp2_with fail
          refine (refat_any ao n c1 xs k w hx).mono ?_
          rintro e w' ⟨rfl, rfl⟩
          go_wp2_with fail
          refine (refat_any bo m c2 ys k w hy).mono ?_
          rintro e w' ⟨rfl, rfl⟩
          go_wp2_with fail
          go_round
          case rel => exact ⟨k + 1, by omega, by go_num, fun j hj => by
            by_cases e : j = k
            · subst e; simp at hd; omega
            · exact hg.out j (by omega)⟩
          case measure => simp [intOf]; omega
        · have hf : leqB xs ys = false := leqB_false (i := k) (by simpa using hd)
          have Hf := Lib.hid (hf.symm.trans Hq.out); clear hf
          go_wp2_with fail
          refine (refat_any ao n c1 xs k w hx).mono ?_
          rintro e w' ⟨rfl, rfl⟩
          go_wp2_with fail
          refine (refat_any bo m c2 ys k w hy).mono ?_
          rintro e w' ⟨rfl, rfl⟩
          go_wp2_with fail
          go_ret
          exact ⟨by rw [← Hf.out]; rfl, rfl⟩
      · have h2' : decide (k < m) = false := by simpa using h2
        have hf : leqB xs ys = true := leqB_of_lt fun i hi => hg.out i (by have := hlx.out; have := hly.out; omega)
        have Hf := Lib.hid (hf.symm.trans Hq.out); clear hf
        go_wp2_with fail
        go_ret
        exact ⟨by rw [← Hf.out]; rfl, rfl⟩

/-- one round of the document's Join, behind its test -/
theorem refjoin_rel {xs ys : List Int} {k N : Nat} (hN : N = max xs.length ys.length) (hk : k < N) {z : Int} (hz : z = max (gi xs k) (gi ys k)) :
    ints .i64 ((joinL xs ys).take k) ++ [Value.int .i64 z] = ints .i64 ((joinL xs ys).take (k + 1)) := by
  rw [joinL_take_succ _ _ _ (by omega), ints_append, hz]; rfl

set_option maxHeartbeats 1000000 in
theorem refjoin_any (ao bo : Option Addr) (n m c1 c2 : Nat) (xs ys : List Int) (w : World) (hx : Rd w 1 ao n c1 (ints .i64 xs)) (hy : Rd w 1 bo m c2 (ints .i64 ys)) (hb : (max n m + 1) * 8 ≤ 140737488355328) :
    Calls Try.prog 11 #[.slice ao n c1, .slice bo m c2] w fun e w' => Below w.heap.size w w' ∧
      ∃ ao' n' cap', e = .returned (.slice ao' n' cap') ∧ w'.ownsRow w.heap.size 2 1 (.slice ao' n' cap') n' (ints .i64 (joinL xs ys)) := by
  have hlx := Lib.hid hx.intLen
  have hly := Lib.hid hy.intLen
  have hl1 := hx.lecap
  have hl2 := hx.lemax
  have hl3 := hy.lecap
  have hl4 := hy.lemax
  go_enter Try.func11, Try.ntmps11
  go_wp2_with fail
  go_loopw [5, 6] (fun v i wr => ∃ k : Nat, k ≤ max n m ∧ i = .int .i64 k ∧ ∃ ao' cap', v = .slice ao' k cap' ∧ Hid (Below w.heap.size w wr ∧ wr.ownsRow w.heap.size 2 1 (.slice ao' k cap') k (ints .i64 ((joinL xs ys).take k)))) (fun _ i _ => max n m - (intOf i).toNat)
  case atStart => exact ⟨0, by omega, rfl, none, 0, rfl, Below.refl _ _, World.ownsRow_nil _ _ _ _⟩
  case round =>
    obtain ⟨k, hk, rfl, ao', cap', rfl, H⟩ := hrel
    have hx1 := hx.fresh H.out.1
    have hy1 := hy.fresh H.out.1
    have hbw := H.out.1.size
    by_cases hlt : k < max n m
    · have hstep : ∀ z : Int, z = max (gi xs k) (gi ys k) → ints .i64 ((joinL xs ys).take k) ++ [Value.int .i64 z] = ints .i64 ((joinL xs ys).take (k + 1)) := fun z hz => refjoin_rel (N := max n m) (by have := hlx.out; have := hly.out; omega) hlt hz
      have Hstep := Lib.hid hstep; clear hstep
      have fin : ∀ (z : Int) (a1 : Option Addr) (c1' : Nat) (w2 : World), Hid (z = max (gi xs k) (gi ys k)) → Hid (w2.ownsRow w.heap.size 2 1 (.slice a1 (k + 1) c1') (k + 1) (ints .i64 ((joinL xs ys).take k) ++ [Value.int .i64 z])) →
          Hid ((wr.alloc (.cells #[Value.int .i64 z] 2)).grownBy w2 (Value.slice ao' k cap').ownBlock) → Hid (Below w.heap.size w w2 ∧ w2.ownsRow w.heap.size 2 1 (.slice a1 (k + 1) c1') (k + 1) (ints .i64 ((joinL xs ys).take (k + 1)))) := by
        intro z a1 c1' w2 hz ho hg
        refine ⟨(H.out.1.alloc (by omega) _).grown hg.out (by simp; omega) (fun b hb => (H.out.2.lt b hb).1), ?_⟩
        rw [← Hstep.out z hz.out]
        exact ho.out
      have Fin := Lib.hid fin; clear fin
      by_cases h1 : k < n
      · cases hd : decide (gi xs k < gi ys k)
        · have hz : Hid (gi xs k = max (gi xs k) (gi ys k)) := by show _ = _; simp at hd; omega
          go_wp2_with fail
          refine (refat_any ao n c1 xs k wr hx1).mono ?_
          rintro e w' ⟨rfl, rfl⟩
          go_wp2_with fail
          refine (refat_any bo m c2 ys k wr hy1).mono ?_
          rintro e w' ⟨rfl, rfl⟩
          go_wp2_with (at_builtin; refine wpl_append el_i64 rfl (.tmp 31) (.tmp 33) rfl rfl (H.out.2.alloc _) rfl (Rd.new wr 1 1 #[.int .i64 (gi xs k)] _ rfl (by omega)) (by intro u hu; simp at hu; subst hu; rfl) (by omega) (by simp; omega) ?_)
          intro ao3 cap3 w2 hown2 hg
          have H2 := Fin.out _ ao3 cap3 w2 hz (Lib.hid hown2) (Lib.hid hg)
          clear hown2 hg
          go_wp2_with fail
          go_roundw
          case rel => exact ⟨k + 1, by omega, by go_num, ao3, cap3, rfl, H2⟩
          case measure => simp [intOf]; omega
        · have hz : Hid (gi ys k = max (gi xs k) (gi ys k)) := by show _ = _; simp at hd; omega
          go_wp2_with fail
          refine (refat_any ao n c1 xs k wr hx1).mono ?_
          rintro e w' ⟨rfl, rfl⟩
          go_wp2_with fail
          refine (refat_any bo m c2 ys k wr hy1).mono ?_
          rintro e w' ⟨rfl, rfl⟩
          go_wp2_with (at_builtin; refine wpl_append el_i64 rfl (.tmp 31) (.tmp 33) rfl rfl (H.out.2.alloc _) rfl (Rd.new wr 1 1 #[.int .i64 (gi ys k)] _ rfl (by omega)) (by intro u hu; simp at hu; subst hu; rfl) (by omega) (by simp; omega) ?_)
          intro ao3 cap3 w2 hown2 hg
          have H2 := Fin.out _ ao3 cap3 w2 hz (Lib.hid hown2) (Lib.hid hg)
          clear hown2 hg
          go_wp2_with fail
          go_roundw
          case rel => exact ⟨k + 1, by omega, by go_num, ao3, cap3, rfl, H2⟩
          case measure => simp [intOf]; omega
      · have h1' : decide (k < n) = false := by simpa using h1
        have h2 : k < m := by omega
        cases hd : decide (gi xs k < gi ys k)
        · have hz : Hid (gi xs k = max (gi xs k) (gi ys k)) := by show _ = _; simp at hd; omega
          go_wp2_with fail
          refine (refat_any ao n c1 xs k wr hx1).mono ?_
          rintro e w' ⟨rfl, rfl⟩
          go_wp2_with fail
          refine (refat_any bo m c2 ys k wr hy1).mono ?_
          rintro e w' ⟨rfl, rfl⟩
          go_wp2_with (at_builtin; refine wpl_append el_i64 rfl (.tmp 31) (.tmp 33) rfl rfl (H.out.2.alloc _) rfl (Rd.new wr 1 1 #[.int .i64 (gi xs k)] _ rfl (by omega)) (by intro u hu; simp at hu; subst hu; rfl) (by omega) (by simp; omega) ?_)
          intro ao3 cap3 w2 hown2 hg
          have H2 := Fin.out _ ao3 cap3 w2 hz (Lib.hid hown2) (Lib.hid hg)
          clear hown2 hg
          go_wp2_with fail
          go_roundw
          case rel => exact ⟨k + 1, by omega, by go_num, ao3, cap3, rfl, H2⟩
          case measure => simp [intOf]; omega
        · have hz : Hid (gi ys k = max (gi xs k) (gi ys k)) := by show _ = _; simp at hd; omega
          go_wp2_with fail
          refine (refat_any ao n c1 xs k wr hx1).mono ?_
          rintro e w' ⟨rfl, rfl⟩
          go_wp2_with fail
          refine (refat_any bo m c2 ys k wr hy1).mono ?_
          rintro e w' ⟨rfl, rfl⟩
          go_wp2_with (at_builtin; refine wpl_append el_i64 rfl (.tmp 31) (.tmp 33) rfl rfl (H.out.2.alloc _) rfl (Rd.new wr 1 1 #[.int .i64 (gi ys k)] _ rfl (by omega)) (by intro u hu; simp at hu; subst hu; rfl) (by omega) (by simp; omega) ?_)
          intro ao3 cap3 w2 hown2 hg
          have H2 := Fin.out _ ao3 cap3 w2 hz (Lib.hid hown2) (Lib.hid hg)
          clear hown2 hg
          go_wp2_with fail
          go_roundw
          case rel => exact ⟨k + 1, by omega, by go_num, ao3, cap3, rfl, H2⟩
          case measure => simp [intOf]; omega
    · have h1' : decide (k < n) = false := by simp; omega
      have h2' : decide (k < m) = false := by simp; omega
      have hke : (joinL xs ys).take k = joinL xs ys := by
        rw [show k = max xs.length ys.length by have := hlx.out; have := hly.out; omega]; exact joinL_take_all _ _
      have hr := H.out
      rw [hke] at hr
      have Hr := Lib.hid hr; clear hr hke
      go_wp2_with fail
      go_ret
      exact ⟨Hr.out.1, ao', k, cap', rfl, Hr.out.2⟩

set_option maxHeartbeats 400000 in
theorem reftick_out (ao : Option Addr) (n cap : Nat) (xs : List Int) (t : Int) (w : World) (hx : Rd w 1 ao n cap (ints .i64 xs)) (hb : n * 8 ≤ 140737488355328) (ht : t < 0 ∨ 63 < t) :
    Calls Try.prog 15 #[.slice ao n cap, .int .i64 t] w fun e w' => Below w.heap.size w w' ∧
      ∃ ao' n' cap', e = .returned (.slice ao' n' cap') ∧ w'.ownsRow w.heap.size 2 1 (.slice ao' n' cap') n' (ints .i64 (tickL xs t)) := by
  rw [tickL_out ht]
  have h01 : t < 0 ∨ (¬ t < 0 ∧ 63 < t) := by omega
  clear ht
  rcases h01 with h0 | ⟨h0, h1⟩
  all_goals
    go_enter Try.func15, Try.ntmps15
    go_wp2_with (at_builtin; refine wpl_append el_i64 rfl (.tmp 6) (.tmp 7) rfl rfl (World.ownsRow_lit w #[] 0 (Nat.le_refl _) (by decide) rfl) rfl (hx.keep (Holds.of_below ((Below.refl _ _).alloc (Nat.le_refl _) _))) (ints_one _ _) (by omega) (by simp) ?_)
    intro ao' cap' w1 hown1 hg
    have hb1 : Below w.heap.size w w1 := ((Below.refl _ w).alloc (Nat.le_refl _) _).grown hg (by simp) (fun k hk => by simp [Value.ownBlock] at hk; omega)
    have Hr := Lib.hid (And.intro hb1 hown1); clear hb1 hown1 hg
    go_wp2_with fail
    go_ret
    refine ⟨Hr.out.1, ao', n, cap', by simp, ?_⟩
    simpa using Hr.out.2

set_option maxHeartbeats 400000 in
theorem reftick_in (ao : Option Addr) (n cap : Nat) (xs : List Int) (t : Nat) (w : World) (hx : Rd w 1 ao n cap (ints .i64 xs)) (hw : wf64 xs) (hb : (n + 64) * 8 ≤ 140737488355328) (ht : t ≤ 63) :
    Calls Try.prog 15 #[.slice ao n cap, .int .i64 t] w fun e w' => Below w.heap.size w w' ∧
      ∃ ao' n' cap', e = .returned (.slice ao' n' cap') ∧ w'.ownsRow w.heap.size 2 1 (.slice ao' n' cap') n' (ints .i64 (tickL xs t)) := by
  rw [tickL_in (by omega) (by omega), Int.toNat_natCast]
  have hl := Lib.hid hx.intLen
  go_enter Try.func15, Try.ntmps15
  go_wp2_with (at_builtin; refine wpl_append el_i64 rfl (.tmp 6) (.tmp 7) rfl rfl (World.ownsRow_lit w #[] 0 (Nat.le_refl _) (by decide) rfl) rfl (hx.keep (Holds.of_below ((Below.refl _ _).alloc (Nat.le_refl _) _))) (ints_one _ _) (by omega) (by simp) ?_)
  intro ao' cap' w1 hown1 hg
  have hb1 : Below w.heap.size w w1 := ((Below.refl _ w).alloc (Nat.le_refl _) _).grown hg (by simp) (fun k hk => by simp [Value.ownBlock] at hk; omega)
  have Hr : Hid (Below w.heap.size w w1 ∧ w1.ownsRow w.heap.size 2 1 (.slice ao' n cap') n (ints .i64 xs)) := ⟨hb1, hown1⟩
  clear hb1 hown1 hg
  go_wp2_with fail
  go_loopw [5] (fun v wr => ∃ k ao2 cap2, v = .slice ao2 k cap2 ∧ n ≤ k ∧ k ≤ max n (t + 1) ∧ Hid (Below w.heap.size w wr ∧ wr.ownsRow w.heap.size 2 1 (.slice ao2 k cap2) k (ints .i64 (xs ++ List.replicate (k - n) 0)))) (fun v _ => t + 1 - slen v)
  case atStart => exact ⟨n, ao', cap', rfl, by omega, by omega, by have := Hr.out; rw [Nat.sub_self, List.replicate_zero, List.append_nil]; exact this⟩
  case round =>
    obtain ⟨k, ao2, cap2, rfl, hk1, hk2, H⟩ := hrel
    by_cases hlt : k ≤ t
    · have hbw := H.out.1.size
      go_wp2_with (at_builtin; refine wpl_append el_i64 rfl (.tmp 20) (.tmp 21) rfl rfl (H.out.2.alloc _) rfl (Rd.new wr 1 1 #[.int .i64 0] _ rfl (by omega)) (by intro u hu; simp at hu; subst hu; rfl) (by omega) (by simp; omega) ?_)
      intro ao3 cap3 w2 hown2 hg
      have hb2 : Below w.heap.size w w2 := (H.out.1.alloc (by omega) _).grown hg (by simp; omega) (fun b hb => (H.out.2.lt b hb).1)
      have H2 := Lib.hid (And.intro hb2 hown2); clear hb2 hown2 hg
      go_wp2_with fail
      go_roundw
      case rel =>
        refine ⟨k + 1, ao3, cap3, rfl, by omega, by omega, H2.out.1, ?_⟩
        have e : ints .i64 (xs ++ List.replicate (k - n) 0) ++ [Value.int .i64 0] = ints .i64 (xs ++ List.replicate (k + 1 - n) 0) := by
          rw [show k + 1 - n = (k - n) + 1 by omega, List.replicate_succ', ← List.append_assoc, ints_append (ys := [0])]; rfl
        rw [← e]
        exact H2.out.2
      case measure => simp [slen]; omega
    · have hke : k = max n (t + 1) := by omega
      have hL : xs ++ List.replicate (k - n) 0 = padTo xs t := by unfold padTo; rw [hl.out, hke]; congr 2; omega
      have hown := H.out.2
      rw [hL] at hown
      obtain ⟨g, rfl, hg1, hg2⟩ := own_some hown (by omega)
      have hrd := own_rd hown
      have hix := idx_run (P := Try.prog) hrd Try.underlying22 el_i64.sz .i64
      have hcx := hrd.intCell t (by omega)
      have hfz := World.ownsRow.frozenAt hown t
      have Hown := Lib.hid hown; clear hown
      have Hb := Lib.hid H.out.1; clear H hL hke
      have hl3 := hrd.lemax
      have hl4 := hrd.lecap
      have Hrd := Lib.hid hrd; clear hrd
      simp only [blk_some, off_some, Nat.zero_add] at hcx
      by_cases hm : gi (padTo xs t) t < 9223372036854775807
      · obtain ⟨x, hxe⟩ : ∃ x, x = gi (padTo xs t) t := ⟨_, rfl⟩
        have Hm : Hid (tickAt xs t = (padTo xs t).set t (gi (padTo xs t) t + 1)) := by unfold tickAt; exact if_pos hm
        rw [← hxe] at hcx hm Hm
        have hmin : -9223372036854775808 ≤ x := by have := (hw.gi t).1; rw [hxe, gi_padTo]; exact this
        clear hxe
        go_wp2_with fail
        go_ret
        refine ⟨Hb.out.setCell (p := ⟨g, t, none⟩) hg1 _, _, k, _, rfl, ?_⟩
        rw [Hm.out]
        have := (World.ownsRow.stored Hown.out t (.int .i64 (x + 1))).1
        simpa [ints] using this
      · have Hm : Hid (tickAt xs t = padTo xs t) := by unfold tickAt; exact if_neg hm
        go_wp2_with fail
        go_ret
        refine ⟨Hb.out, _, k, _, rfl, ?_⟩
        rw [Hm.out]
        exact Hown.out
theorem reftick_any (ao : Option Addr) (n cap : Nat) (xs : List Int) (t : Int) (w : World) (hx : Rd w 1 ao n cap (ints .i64 xs)) (hw : wf64 xs) (hb : (n + 64) * 8 ≤ 140737488355328) :
    Calls Try.prog 15 #[.slice ao n cap, .int .i64 t] w fun e w' => Below w.heap.size w w' ∧
      ∃ ao' n' cap', e = .returned (.slice ao' n' cap') ∧ w'.ownsRow w.heap.size 2 1 (.slice ao' n' cap') n' (ints .i64 (tickL xs t)) := by
  by_cases h : t < 0 ∨ 63 < t
  · exact reftick_out ao n cap xs t w hx (by omega) h
  · obtain ⟨k, rfl⟩ := Int.eq_ofNat_of_zero_le (show 0 ≤ t by omega)
    exact reftick_in ao n cap xs k w hx hw hb (by omega)
end Go.Proofs.Ytonenaahmicacaa
