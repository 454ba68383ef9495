/-
  Events: a frame that is cut. Plain mathematics. No condition.
-/
import Derived.Test.YtogdkhejfkbnmaaEvtM
set_option linter.unusedVariables false
set_option linter.unusedSimpArgs false
namespace Go.Pe
open Go Go.Am Go.RowKit

theorem varF_init : ∀ (f n k : Nat), k < (varF f n).length → ∀ c ∈ (varF f n).take k, 128 ≤ c.toNat := by
  intro f
  induction f with
  | zero =>
    intro n k hk c hc
    unfold varF at hk hc
    simp only [List.length_singleton] at hk
    have : k = 0 := by omega
    subst this
    simp at hc
  | succ f ih =>
    intro n k hk c hc
    unfold varF at hk hc
    split at hk
    · rename_i h
      rw [if_pos h] at hc
      simp only [List.length_singleton] at hk
      have : k = 0 := by omega
      subst this
      simp at hc
    · rename_i h
      rw [if_neg h] at hc
      cases k with
      | zero => simp at hc
      | succ k =>
        simp only [List.length_cons] at hk
        rw [List.take_succ_cons] at hc
        rcases List.mem_cons.1 hc with rfl | hc
        · rw [UInt8.toNat_ofNat']; omega
        · exact ih _ k (by omega) c hc
theorem getU_cut {n k : Nat} {rest : List UInt8} (hk : k < (varint n).length) : getU ((varint n ++ rest).take k) 0 = (0, 0, 11) := by
  have ht : (varint n ++ rest).take k = (varint n).take k := List.take_append_of_le_length (by omega)
  have hle := varint_le n
  have hp : (parse ((varint n).take k)).2 = 0 := (parse_short _).2 ⟨varF_init 9 n k hk, by rw [List.length_take]; omega⟩
  unfold getU
  rw [if_neg (by omega), ht]
  simp only [Int.toNat_zero, List.drop_zero, hp, if_true]
theorem readL_cut {l : List Ev} (h2 : l.length ≤ 4096) {k : Nat} (hk : k < (frameL l).length) : readL ((frameL l).take k) 0 = .inr 11 := by
  have hB := bodyL_le h2
  have hs := sealB_len (bodyL l)
  rw [frameL_len] at hk
  by_cases hv : k < (varint (bodyL l).length).length
  · have hg := getU_cut (rest := sealB (bodyL l)) hv
    unfold readL frameL
    simp only [hg]
    rfl
  · have hx : ((frameL l).take k).drop 0 = varint (bodyL l).length ++ (sealB (bodyL l)).take (k - (varint (bodyL l).length).length) := by
      unfold frameL
      rw [List.drop_zero, List.take_append, List.take_of_length_le (by omega)]
    have hg := getU_varint hx (Nat.zero_le _) (by omega)
    have hl : ((frameL l).take k).length = k := by rw [List.length_take, frameL_len]; omega
    have hg' : getU ((frameL l).take k) 0 = ((bodyL l).length, ((varint (bodyL l).length).length : Int), 0) := by
      rw [show (0 : Int) = ((0 : Nat) : Int) from rfl, hg]; simp
    unfold readL
    simp only [hg', ne_eq, not_true_eq_false, if_false, hl]
    rw [if_neg (by omega), if_pos (by omega)]
end Go.Pe
