/-
  What bytes.Uint, Int and their helpers compute: a number laid out behind bytes of the call's own. Condition: the bytes are within 2^47.
-/
import Derived.Test.YtmjoneiagfegdaaBytesM
import Derived.Lib.Zigzag
import Derived.Laws.BitsAllLaws
set_option linter.unusedVariables false
namespace Go.Proofs.Ytmjoneiagfegdaa
open Go.RowKit Go.Am

theorem el_u8 : Elem Try.prog 23 5 (.int .u8 0) 1 1 := ⟨Try.underlying23, by kernel_rfl, rfl, by decide, by decide⟩

theorem and127 (m : Nat) (h : m < 18446744073709551616) : bits .and .u64 (m : Int) 127 = ((m % 128 : Nat) : Int) := by
  have := u64_and_nat m 127 h (by decide)
  rw [nat_mask7] at this
  exact this
theorem or128 (b : Nat) (h : b < 128) : bits .or .u8 (b : Int) 128 = ((b + 128 : Nat) : Int) := by
  have h1 := u8_or_nat b 128 (by omega) (by decide)
  have h2 : b ||| 128 = b + 128 := by
    have := Nat.two_pow_add_eq_or_of_lt (i := 7) (b := b) (by omega) 1
    rw [show (2 : Nat) ^ 7 * 1 = 128 by decide] at this
    rw [Nat.or_comm, ← this, Nat.add_comm]
  rw [h2] at h1
  exact h1

set_option maxRecDepth 100000 in
set_option maxHeartbeats 1000000 in
/-- a number, laid out behind bytes of the call's own -/
theorem uint_any (ao : Option Addr) (n cap : Nat) (xs : List UInt8) (N : Nat) (w : World) (base : Nat) (hown : w.ownsRow base 5 1 (.slice ao n cap) n (bytesC xs)) (hbase : base ≤ w.heap.size)
    (hN : N < 18446744073709551616) (hb : n + 10 ≤ 140737488355328) :
    Calls Try.prog 11 #[.slice ao n cap, .int .u64 N] w fun e w' => w.grownBy w' (Value.slice ao n cap).ownBlock ∧
      ∃ ao' n' cap', e = .returned (.slice ao' n' cap') ∧ w'.ownsRow base 5 1 (.slice ao' n' cap') n' (bytesC (xs ++ varint N)) := by
  go_enter Try.func11, Try.ntmps11
  go_wp2_with fail
  go_loopw [1, 6] (fun nv kv wr => ∃ (k m : Nat) (pre : List UInt8), k ≤ 9 ∧ kv = .int .i64 k ∧ nv = .int .u64 (m : Int) ∧ m < 18446744073709551616 ∧
      Hid (pre.length = k ∧ varint N = pre ++ varF (9 - k) m ∧ m * 128 ^ k < 18446744073709551616 ∧ Blk wr w.heap.size 63 (bytesC (pre ++ List.replicate (10 - k) 0)) ∧ Below w.heap.size w wr)) (fun _ kv _ => 10 - (intOf kv).toNat)
  case atStart => exact ⟨0, N, [], by omega, rfl, rfl, hN, rfl, rfl, by omega, Blk.new _ _ _, alc _ _⟩
  case round =>
    obtain ⟨k, m, pre, hk, rfl, rfl, hm, H⟩ := hrel
    have hand := and127 m hm
    have hlen : (bytesC (pre ++ List.replicate (10 - k) 0)).length = 10 := by simp; have := H.out.1; omega
    obtain ⟨v0, hc⟩ : ∃ v0, wr.cell? ⟨w.heap.size, k, none⟩ = some v0 := ⟨_, H.out.2.2.2.1.cell (i := k) (by omega)⟩
    have hf := H.out.2.2.2.1.free k
    have Hlen := Lib.hid hlen; clear hlen
    have hbel := Lib.hid H.out.2.2.2.2.size
    by_cases hlt : m < 128
    · have hsl := slice_arr_h (P := Try.prog) Try.underlying63 el_u8.sz w.heap.size ((k : Int) + 1) (k + 1) (by omega) (by omega)
      have hfin : varint N = pre ++ [UInt8.ofNat m] := by
        rw [H.out.2.1]; congr 1
        cases 9 - k with
        | zero => rfl
        | succ f => simp [varF, hlt]
      have Hfin := Lib.hid hfin; clear hfin
      obtain ⟨u, hu⟩ : ∃ u : Value, u = .int .u8 ((m : Int) % 128) := ⟨_, rfl⟩
      have hb2 : Hid (Blk (wr.setCell ⟨w.heap.size, k, none⟩ (.int .u8 ((m : Int) % 128))) w.heap.size 63 ((bytesC (pre ++ List.replicate (10 - k) 0)).set k (.int .u8 ((m : Int) % 128)))) := H.out.2.2.2.1.set k _
      have hr2 := hb2.out.rd (n := k + 1) (cap := 10) (by simp; have := H.out.1; omega) (by omega) (by omega)
      have htk : ((bytesC (pre ++ List.replicate (10 - k) 0)).set k (.int .u8 ((m : Int) % 128))).take (k + 1) = bytesC (varint N) := by
        rw [Hfin.out, bytesC_append, bytesC_append, show (10 - k) = (9 - k) + 1 by omega, List.replicate_succ]
        have h1 : (bytesC pre).length = k := by simp; exact H.out.1
        rw [← h1, List.set_append_right _ _ (Nat.le_refl _), Nat.sub_self, List.take_append, List.take_of_length_le (by omega)]
        have e1 : (bytesC pre).length + 1 - (bytesC pre).length = 1 := by omega
        rw [e1]
        simp [bytesC, ofNat_small (show m < 256 by omega)]
        omega
      rw [htk] at hr2
      have Hr2 := Lib.hid hr2
      have hown2 : Hid ((wr.setCell ⟨w.heap.size, k, none⟩ (.int .u8 ((m : Int) % 128))).ownsRow base 5 1 (.slice ao n cap) n (bytesC xs)) :=
        own_below hown (H.out.2.2.2.2.setCell (p := ⟨w.heap.size, k, none⟩) (Nat.le_refl _) _) (Nat.le_refl _)
      have hB2 : Hid (Below w.heap.size w (wr.setCell ⟨w.heap.size, k, none⟩ (.int .u8 ((m : Int) % 128)))) := H.out.2.2.2.2.setCell (p := ⟨w.heap.size, k, none⟩) (Nat.le_refl _) _
      clear hr2 htk
      go_wp2_with (at_builtin; refine wpl_append el_u8 rfl (.tmp 16) (.tmp 19) rfl rfl hown2.out rfl Hr2.out (bytesC_one _) (by omega) (by have := hB2.out.size; omega) ?_)
      intro ao3 cap3 w3 hown3 hg3
      have Hg := Lib.hid (gb_trans (gb_below hB2.out _) hg3 (fun b hb => .inr hb))
      rw [← bytesC_append] at hown3
      have Ho := Lib.hid hown3
      clear hown3 hg3
      go_wp2_with fail
      go_ret
      exact ⟨Hg.out, ao3, _, cap3, rfl, Ho.out⟩
    · have hor := or128 (m % 128) (by omega)
      have Hor := Lib.hid hor; clear hor
      go_wp2_with fail
      go_roundw
      case rel =>
        have hk9 : k ≠ 9 := by
          intro h
          have := H.out.2.2.1
          subst h
          have e : (128 : Nat) ^ 9 = 9223372036854775808 := by decide
          omega
        refine ⟨k + 1, m / 128, pre ++ [UInt8.ofNat (m % 128 + 128)], by omega, by go_num, by go_num, by omega, by simp; exact H.out.1, ?_, ?_, ?_, (H.out.2.2.2.2.setCell (p := ⟨w.heap.size, k, none⟩) (Nat.le_refl _) _).setCell (p := ⟨w.heap.size, k, none⟩) (Nat.le_refl _) _⟩
        · rw [H.out.2.1, show 9 - k = (9 - (k + 1)) + 1 by omega]
          conv => lhs; unfold varF
          rw [if_neg hlt]; simp
        · have h1 := H.out.2.2.1
          rw [Nat.pow_succ, Nat.mul_comm (128 ^ k), ← Nat.mul_assoc]
          have : m / 128 * 128 * 128 ^ k ≤ m * 128 ^ k := Nat.mul_le_mul_right _ (by omega)
          omega
        · have h1 := (H.out.2.2.2.1.set k (.int .u8 ((m : Int) % 128))).set k (.int .u8 (bits .or .u8 ((m : Int) % 128) 128))
          rw [show bits .or .u8 ((m : Int) % 128) 128 = ((m % 128 + 128 : Nat) : Int) from Hor.out] at h1 ⊢
          rw [List.set_set] at h1
          have e : (bytesC (pre ++ List.replicate (10 - k) 0)).set k (.int .u8 ((m % 128 + 128 : Nat) : Int)) = bytesC (pre ++ [UInt8.ofNat (m % 128 + 128)] ++ List.replicate (10 - (k + 1)) 0) := by
            rw [bytesC_append, bytesC_append, bytesC_append, show (10 - k) = (10 - (k + 1)) + 1 by omega, List.replicate_succ]
            have h2 : (bytesC pre).length = k := by simp; exact H.out.1
            rw [← h2, List.set_append_right _ _ (Nat.le_refl _), Nat.sub_self]
            simp [bytesC]
            omega
          rw [e] at h1
          exact h1
      case measure => simp [intOf]; omega
end Go.Proofs.Ytmjoneiagfegdaa
