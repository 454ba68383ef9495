/-
  What package slices computes of bytes: Grow (of nothing), Concat (of two), Equal, Clone. Condition: the bytes are within 2^47.
-/
import Derived.Test.YtmjoneiagfegdaaBytesW
import Derived.Lib.AppendZeros
import Derived.Lib.SliceRun
set_option linter.unusedVariables false
namespace Go.Proofs.Ytmjoneiagfegdaa
open Go.RowKit Go.Am

set_option maxHeartbeats 1000000 in
theorem grow_nil (N : Nat) (w : World) (hb : N ≤ 140737488355328) :
    Calls Try.prog 48 #[.slice none 0 0, .int .i64 N] w fun e w' => Below w.heap.size w w' ∧
      ∃ ao cap, e = .returned (.slice ao 0 cap) ∧ w'.ownsRow w.heap.size 5 1 (.slice ao 0 cap) 0 (bytesC []) := by
  by_cases h0 : N = 0
  · subst h0
    go_enter Try.func48, Try.ntmps48
    go_wp2_with fail
    go_ret
    exact ⟨brefl _, none, 0, rfl, World.ownsRow_nil _ _ _ _⟩
  · have h1 : 0 < N := by omega
    clear h0
    obtain ⟨i, hi, hz, hsize, hby⟩ := info_parts (el_u8).info
    have hr := Lib.hid (Lib.run_append_nil_zeros (P := Try.prog) w 23 3 23 5 i (.int .u8 0) .i64 .i64 Try.underlying23 Try.underlying3 hi hz N h1 (by omega) (by omega) (by rw [hby]; omega))
    have hcap := grownCap_ge w N 0 5
    have hcap2 : grownCap w N 0 5 ≤ 9223372036854775807 := grownCap_le_maxLen w N 0 5 (by unfold maxLen; omega)
    have hown : (w.drew.alloc (.cells (Builtin.zeroCells (Value.int .u8 0).cells N ++ Builtin.zeroCells (Value.int .u8 0).cells (grownCap w N 0 5 - N)) 5)).ownsRow w.heap.size 5 1 (.slice (some ⟨w.heap.size, 0, none⟩) 0 (grownCap w N 0 5)) 0 (bytesC []) :=
      World.ownsRow_made w.drew _ _ (Nat.le_refl _) hcap2 (by simp [size_zeroCells, Value.cells]; omega)
    have hbel : Below w.heap.size w (w.drew.alloc (.cells (Builtin.zeroCells (Value.int .u8 0).cells N ++ Builtin.zeroCells (Value.int .u8 0).cells (grownCap w N 0 5 - N)) 5)) := bgo (drw w) (alc _ _)
    generalize hW : w.drew.alloc (.cells (Builtin.zeroCells (Value.int .u8 0).cells N ++ Builtin.zeroCells (Value.int .u8 0).cells (grownCap w N 0 5 - N)) 5) = W2 at *
    generalize grownCap w N 0 5 = C at *
    have Hb := Lib.hid (And.intro hbel hown)
    clear hbel hown hW
    go_enter Try.func48, Try.ntmps48
    go_wp2_with (at_builtin; refine Lib.wpList_append_run _ rfl (.tmp 20) (.tmp 21) 23 3 rfl (.slice none 0 0) (.int .i64 N) rfl rfl _ W2 hr.out ?_)
    go_ret
    refine ⟨Hb.out.1, _, _, ?_, Hb.out.2⟩
    have hC : C ≠ 0 := by omega
    simp

set_option maxRecDepth 100000 in
set_option maxHeartbeats 1000000 in
theorem concat2 (g : Nat) (ao bo : Option Addr) (n m c1 c2 : Nat) (xs ys : List UInt8) (w : World) (ha : w.cell? ⟨g, 0, none⟩ = some (.slice ao n c1)) (hb : w.cell? ⟨g, 1, none⟩ = some (.slice bo m c2))
    (hx : Rd w 1 ao n c1 (bytesC xs)) (hy : Rd w 1 bo m c2 (bytesC ys)) (hs : n + m ≤ 140737488355328) :
    Calls Try.prog 41 #[.slice (some ⟨g, 0, none⟩) 2 2] w fun e w' => Below w.heap.size w w' ∧
      ∃ ao' cap', e = .returned (.slice ao' (n + m) cap') ∧ w'.ownsRow w.heap.size 5 1 (.slice ao' (n + m) cap') (n + m) (bytesC (xs ++ ys)) := by
  have hg := Lib.hid (World.block_lt_of_cell? w _ ha)
  go_enter Try.func41, Try.ntmps41
  go_wp2_with fail
  go_loop [3, 11] (fun s i => ∃ k : Nat, i = .int .i64 k ∧ (k = 0 ∧ s = .int .i64 0 ∨ k = 1 ∧ s = .int .i64 n ∨ k = 2 ∧ s = .int .i64 ((n + m : Nat) : Int))) (fun _ i => 2 - (intOf i).toNat)
  case atStart => exact ⟨0, rfl, .inl ⟨rfl, rfl⟩⟩
  case round =>
    obtain ⟨k, rfl, ⟨rfl, rfl⟩ | ⟨rfl, rfl⟩ | ⟨rfl, rfl⟩⟩ := hrel
    · go_wp2_with fail
      go_round
      case rel => exact ⟨1, rfl, .inr (.inl ⟨rfl, rfl⟩)⟩
      case measure => simp [intOf]
    · go_wp2_with fail
      go_round
      case rel => exact ⟨2, rfl, .inr (.inr ⟨rfl, by go_num⟩)⟩
      case measure => simp [intOf]
    · go_wp2_with fail
      refine (grow_nil (n + m) _ (by omega)).mono ?_
      rintro e w1 ⟨hb1, ao1, cap1, rfl, hown1⟩
      have B1 := Lib.hid (And.intro hb1 hown1)
      have Ha := Lib.hid ha
      have Hb := Lib.hid hb
      have Hx := Lib.hid hx
      have Hy := Lib.hid hy
      clear hb1 hown1 ha hb hx hy
      go_wp2_with fail
      go_loopw [6, 27] (fun v i wr => ∃ k : Nat, i = .int .i64 k ∧ ∃ ao' n' cap' L, v = .slice ao' n' cap' ∧ (k = 0 ∧ n' = 0 ∧ L = [] ∨ k = 1 ∧ n' = n ∧ L = xs ∨ k = 2 ∧ n' = n + m ∧ L = xs ++ ys) ∧ Hid (Below w.heap.size w wr ∧ wr.ownsRow w.heap.size 5 1 (.slice ao' n' cap') n' (bytesC L))) (fun _ i _ => 2 - (intOf i).toNat)
      case atStart => exact ⟨0, rfl, ao1, 0, cap1, [], rfl, .inl ⟨rfl, rfl, rfl⟩, B1.out⟩
      case round =>
        obtain ⟨k, rfl, ao', n', cap', L, rfl, ⟨rfl, rfl, rfl⟩ | ⟨rfl, rfl, rfl⟩ | ⟨rfl, rfl, rfl⟩, H⟩ := hrel
        · have ha2 := (H.out.1.cell (p := ⟨g, 0, none⟩) hg.out).trans Ha.out
          have hx2 := Lib.hid (Hx.out.fresh H.out.1)
          go_wp2_with (at_builtin; refine wpl_append el_u8 rfl (.tmp 31) (.tmp 32) rfl rfl H.out.2 rfl hx2.out (bytesC_one _) (by omega) H.out.1.size ?_)
          intro ao3 cap3 w3 hown3 hg3
          rw [← bytesC_append] at hown3
          rw [List.nil_append] at hown3
          have H3 : Hid (Below w.heap.size w w3 ∧ w3.ownsRow w.heap.size 5 1 (.slice ao3 n cap3) n (bytesC xs)) := ⟨H.out.1.grown hg3 H.out.1.size (fun b hb => (H.out.2.lt b hb).1), hown3⟩
          clear hown3 hg3 ha2 hx2
          go_wp2_with fail
          go_roundw
          case rel => exact ⟨1, rfl, ao3, n, cap3, xs, rfl, .inr (.inl ⟨rfl, rfl, rfl⟩), H3⟩
          case measure => simp [intOf]
        · have ha2 := (H.out.1.cell (p := ⟨g, 1, none⟩) hg.out).trans Hb.out
          have hx2 := Lib.hid (Hy.out.fresh H.out.1)
          go_wp2_with (at_builtin; refine wpl_append el_u8 rfl (.tmp 31) (.tmp 32) rfl rfl H.out.2 rfl hx2.out (bytesC_one _) (by omega) H.out.1.size ?_)
          intro ao3 cap3 w3 hown3 hg3
          rw [← bytesC_append] at hown3
          have H3 : Hid (Below w.heap.size w w3 ∧ w3.ownsRow w.heap.size 5 1 (.slice ao3 (n' + m) cap3) (n' + m) (bytesC (L ++ ys))) := ⟨H.out.1.grown hg3 H.out.1.size (fun b hb => (H.out.2.lt b hb).1), hown3⟩
          clear hown3 hg3 ha2 hx2
          go_wp2_with fail
          go_roundw
          case rel => exact ⟨2, rfl, ao3, _, cap3, _, rfl, .inr (.inr ⟨rfl, rfl, rfl⟩), H3⟩
          case measure => simp [intOf]
        · go_wp2_with fail
          go_ret
          exact ⟨H.out.1, ao', cap', rfl, H.out.2⟩

set_option maxHeartbeats 400000 in
theorem cloneB (ao : Option Addr) (n cap : Nat) (xs : List UInt8) (w : World) (hx : Rd w 1 ao n cap (bytesC xs)) (hb : n ≤ 140737488355328) :
    Calls Try.prog 43 #[.slice ao n cap] w fun e w' => Below w.heap.size w w' ∧
      ∃ ao' cap', e = .returned (.slice ao' n cap') ∧ w'.ownsRow w.heap.size 5 1 (.slice ao' n cap') n (bytesC xs) := by
  have hnil := fun w => Lib.run_eql_slice_nil (P := Try.prog) w 23 5 ao n cap 0 0 Try.underlying23
  cases ao with
  | none =>
    obtain ⟨rfl, rfl⟩ := hx.nil rfl
    have hl : bytesC xs = [] := List.eq_nil_of_length_eq_zero (by simpa using hx.len)
    have Hl := Lib.hid hl; clear hl
    clear hx
    go_enter Try.func43, Try.ntmps43
    go_wp2_with fail
    go_ret
    refine ⟨Below.refl _ _, none, 0, rfl, ?_⟩
    rw [Hl.out]
    exact World.ownsRow_nil _ _ _ _
  | some ad =>
    go_enter Try.func43, Try.ntmps43
    go_wp2_with (at_builtin; refine wpl_append el_u8 rfl (.tmp 5) (.tmp 6) rfl rfl (World.ownsRow_lit w #[] 0 (Nat.le_refl _) (by decide) rfl) rfl (hx.fresh (alc _ _)) (bytesC_one _) (by omega) (by simp) ?_)
    intro ao' cap' w1 hown1 hg
    have hb1 : Below w.heap.size w w1 := (alc w _).grown hg (by simp) (fun k hk => by simp [Value.ownBlock] at hk; omega)
    have Hr := Lib.hid (And.intro hb1 hown1); clear hb1 hown1 hg
    go_wp2_with fail
    go_ret
    refine ⟨Hr.out.1, ao', cap', by simp, ?_⟩
    simpa using Hr.out.2

set_option maxHeartbeats 400000 in
theorem equalB (ao ao2 : Option Addr) (n n2 cap cap2 : Nat) (xs ys : List UInt8) (w : World) (hx : Rd w 1 ao n cap (bytesC xs)) (hy : Rd w 1 ao2 n2 cap2 (bytesC ys)) (b : Bool) (hq : decide (xs = ys) = b) :
    Calls Try.prog 42 #[.slice ao n cap, .slice ao2 n2 cap2] w fun e w' => e = .returned (.bool b) ∧ Below w.heap.size w w' := by
  by_cases hne : n = n2
  case neg =>
    have hl := hx.byteLen
    have hl2 := hy.byteLen
    have hf : decide (xs = ys) = false := by simp; intro h; subst h; omega
    rw [hf] at hq
    subst hq
    have ht : ((n : Int) != (n2 : Int)) = true := by simp; omega
    clear hx hy hl hl2 hf
    go_enter Try.func42, Try.ntmps42
    go_wp2
    go_ret
    exact ⟨rfl, brefl _⟩
  subst hne
  have hl3 := hx.lecap
  have hl4 := hx.lemax
  have hix := idx_run (P := Try.prog) hx Try.underlying23 el_u8.sz .i64
  have hiy := idx_run (P := Try.prog) hy Try.underlying23 el_u8.sz .i64
  have hcx := hx.byteCell
  have hcy := hy.byteCell
  have Hl := Lib.hid hx.byteLen
  have Hl2 := Lib.hid hy.byteLen
  have Hq := Lib.hid hq; clear hq
  clear hx hy
  go_enter Try.func42, Try.ntmps42
  go_wp2
  go_loopw [13] (fun i wr => ∃ k : Nat, k ≤ n ∧ i = .int .i64 k ∧ Hid (∀ j, j < k → bi xs j = bi ys j) ∧ ∃ m, wr = w.drewN m) (fun i _ => n - (intOf i).toNat)
  case atStart => exact ⟨0, by omega, rfl, fun j h => absurd h (by omega), 0, rfl⟩
  case round =>
    obtain ⟨k, hk, rfl, hs, m, rfl⟩ := hrel
    by_cases hlt : k < n
    · by_cases he : bi xs k = bi ys k
      · have hd : ((bi xs k : Int) != (bi ys k : Int)) = false := by simp; omega
        have He := Lib.hid he; clear he
        go_wp2
        go_quiet (fail)
        go_wp2
        go_roundw
        case rel => exact ⟨k + 1, by omega, by go_num, fun j hj => by
          by_cases e : j = k
          · subst e; exact He.out
          · exact hs.out j (by omega), m + nq, rfl⟩
        case measure => show n - ((k : Int) + 1).toNat < n - (k : Int).toNat; omega
      · have hd : ((bi xs k : Int) != (bi ys k : Int)) = true := by simp; omega
        have hf : b = false := by rw [← Hq.out]; simp; intro h; subst h; exact he rfl
        clear he
        have Hf := Lib.hid hf; clear hf
        go_wp2
        go_quiet (fail)
        go_wp2
        go_ret
        exact ⟨by rw [Hf.out]; rfl, by rw [World.drewN_drewN]; exact drn _ _⟩
    · have hf : b = true := by rw [← Hq.out]; simp; exact ext_bi (Hl.out.trans Hl2.out.symm) fun i hi => hs.out i (by have := Hl.out; omega)
      have Hf := Lib.hid hf; clear hf
      go_wp2
      go_ret
      exact ⟨by rw [Hf.out]; rfl, drn _ _⟩
end Go.Proofs.Ytmjoneiagfegdaa
