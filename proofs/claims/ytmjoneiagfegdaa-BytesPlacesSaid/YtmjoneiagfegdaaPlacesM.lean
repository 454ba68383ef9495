/-
  What Unseal tells of what was sealed and then turned in one place. No condition.
-/
import Derived.Test.YtmjoneiagfegdaaBytesC
set_option linter.unusedVariables false
namespace Go.Proofs.Ytmjoneiagfegdaa
open Go.Am

theorem be4_inj {a b : Nat} (ha : a < 4294967296) (hb : b < 4294967296) (h : be4 a = be4 b) : a = b := by
  have h2 := congrArg bytesC h
  rw [be4_cells a ha, be4_cells b hb] at h2
  simp at h2
  omega
theorem unseal_seal (xs : List UInt8) : unsealB (sealB xs) = (xs, 0) := by
  unfold unsealB
  have hl := sealB_length xs
  have ht : (sealB xs).take ((sealB xs).length - 4) = xs := by
    rw [hl, Nat.add_sub_cancel]; unfold sealB; simp
  rw [if_neg (by omega), ht, if_pos rfl]
/-- what is looked at: either it is what was sealed, or it is refused -/
def seen (xs x : List UInt8) : Prop := unsealB x = if x = sealB xs then (xs, 0) else ([], 12)
theorem seen_front {xs y : List UInt8} (hl : y.length = xs.length) (h : crc y = crc xs → y = xs) : seen xs (y ++ be4 (crc xs)) := by
  unfold seen
  by_cases he : y ++ be4 (crc xs) = sealB xs
  · rw [if_pos he, he]; exact unseal_seal xs
  · rw [if_neg he]
    unfold unsealB
    have hll : (y ++ be4 (crc xs)).length = y.length + 4 := by simp [be4]
    have ht : (y ++ be4 (crc xs)).take ((y ++ be4 (crc xs)).length - 4) = y := by rw [hll, Nat.add_sub_cancel]; simp
    rw [if_neg (by omega), ht, if_neg]
    intro h2
    unfold sealB at h2
    have h3 := be4_inj (crc_lt y) (crc_lt xs) (List.append_cancel_left h2)
    exact he (by rw [h h3]; rfl)
theorem seen_back {xs t : List UInt8} (hl : t.length = 4) : seen xs (xs ++ t) := by
  unfold seen
  by_cases he : xs ++ t = sealB xs
  · rw [if_pos he, he]; exact unseal_seal xs
  · rw [if_neg he]
    unfold unsealB
    have ht : (xs ++ t).take ((xs ++ t).length - 4) = xs := by rw [List.length_append, hl, Nat.add_sub_cancel]; simp
    rw [if_neg (by rw [List.length_append, hl]; omega), ht, if_neg]
    intro h2
    exact he h2.symm
/-- two neighbours change places -/
theorem seen_swap (p s : List UInt8) (a b : UInt8) : seen (p ++ [a, b] ++ s) ((p ++ [b, a] ++ s) ++ be4 (crc (p ++ [a, b] ++ s))) := by
  refine seen_front (by simp) fun h => ?_
  rw [crc_burst (by rfl) (by simp) h]
/-- a byte turned -/
theorem seen_turn (p s : List UInt8) (a b : UInt8) : seen (p ++ [a] ++ s) ((p ++ [b] ++ s) ++ be4 (crc (p ++ [a] ++ s))) := by
  refine seen_front (by simp) fun h => ?_
  rw [crc_burst (by rfl) (by simp) h]

/-- the i-th byte -/
def gb (l : List UInt8) (i : Nat) : UInt8 := l.getD i 0
theorem bi_gb (l : List UInt8) (i : Nat) : bi l i = (gb l i).toNat := rfl
theorem bytesC_set (l : List UInt8) (i : Nat) (c : UInt8) : (bytesC l).set i (.int .u8 (c.toNat : Int)) = bytesC (l.set i c) := by simp [bytesC, List.map_set]
theorem part1 {xs : List UInt8} {k : Nat} (h : k < xs.length) : xs = xs.take k ++ [gb xs k] ++ xs.drop (k + 1) := by
  have : gb xs k = xs[k] := by simp [gb, List.getD, h]
  rw [this]
  simp
theorem seen_set1 {xs : List UInt8} {k : Nat} (h : k < xs.length) (c : UInt8) : seen xs ((sealB xs).set k c) := by
  have h1 := part1 h
  have := seen_turn (xs.take k) (xs.drop (k + 1)) (gb xs k) c
  rw [← h1] at this
  have e : (sealB xs).set k c = (xs.take k ++ [c] ++ xs.drop (k + 1)) ++ be4 (crc xs) := by
    unfold sealB
    rw [List.set_append_left _ _ h, List.set_eq_take_append_cons_drop, if_pos h]
    simp
  rw [e]; exact this
theorem split2 {xs : List UInt8} {k : Nat} (h : k + 1 < xs.length) : ∃ p a b s, xs = p ++ (a :: b :: s) ∧ p.length = k := by
  refine ⟨xs.take k, xs[k], xs[k + 1], xs.drop (k + 2), ?_, by simp; omega⟩
  conv => lhs; rw [← List.take_append_drop k xs]
  rw [List.drop_eq_getElem_cons (show k < xs.length by omega), List.drop_eq_getElem_cons h]
theorem seen_set2 {xs : List UInt8} {k : Nat} (h : k + 1 < xs.length) : seen xs (((sealB xs).set k (gb (sealB xs) (k + 1))).set (k + 1) (gb (sealB xs) k)) := by
  obtain ⟨p, a, b, s, rfl, rfl⟩ := split2 h
  have := seen_swap p s a b
  have e1 : p ++ [a, b] ++ s = p ++ (a :: b :: s) := by simp
  rw [e1] at this
  have g1 : gb (sealB (p ++ (a :: b :: s))) p.length = a := by
    unfold gb sealB; simp [List.getD]
  have g2 : gb (sealB (p ++ (a :: b :: s))) (p.length + 1) = b := by
    unfold gb sealB; simp [List.getD]
  rw [g1, g2]
  unfold sealB
  have e2 : ((p ++ (a :: b :: s) ++ be4 (crc (p ++ (a :: b :: s)))).set p.length b).set (p.length + 1) a = p ++ [b, a] ++ s ++ be4 (crc (p ++ (a :: b :: s))) := by
    generalize be4 (crc (p ++ (a :: b :: s))) = z
    rw [List.append_assoc, List.set_append_right _ _ (Nat.le_refl _), List.set_append_right _ _ (by omega)]
    simp
  rw [e2]; exact this
end Go.Proofs.Ytmjoneiagfegdaa
