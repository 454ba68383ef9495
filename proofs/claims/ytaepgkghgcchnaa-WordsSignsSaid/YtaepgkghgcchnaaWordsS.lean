/-
  Words: what is told at a place hangs on what stands from there on; pieces cut out. No condition.
-/
import Derived.Test.YtaepgkghgcchnaaWordsQ
set_option linter.unusedVariables false
set_option linter.unusedSimpArgs false
namespace Go.Pe
open Go Go.Am Go.RowKit

/-- the token behind what is passed over -/
def tokD (t : List UInt8) : Option (Int × List UInt8 × Int × Nat) :=
  let s := t.take (endL t)
  let c := cls (t.getD 0 0)
  if c = 3 then match numL 0 s with
    | some n => some (1, [], (n : Int), endL t)
    | none => none
  else if c = 4 then some (if hasS (32 :: s ++ [32]) keyText then 3 else 2, s, 0, endL t)
  else if c = 5 ∧ s ≠ [61] then some (4, s, 0, endL t)
  else none
def nextD (d : List UInt8) : Option (Int × List UInt8 × Int × Nat) := if pass false d = d.length then some (5, [], 0, 0) else tokD (d.drop (pass false d))
def outR (r : Option (Int × List UInt8 × Int × Nat)) (line : Int) (a : Nat) : PV := match r with
  | some (k, s, n, l) => wordR k s n line a ((a + l : Nat) : Int)
  | none => faultR 100 line
def lineOf (text : List UInt8) (a : Nat) : Int := cntS 10 (text.take a) 0 + 1
theorem nextR_eq {text : List UInt8} {at0 : Nat} (h : at0 ≤ text.length) : nextR text at0 = outR (nextD (text.drop at0)) (lineOf text (at0 + pass false (text.drop at0))) (at0 + pass false (text.drop at0)) := by
  have hp := pass_le false (text.drop at0)
  rw [List.length_drop] at hp
  unfold nextR nextD
  simp only []
  have hl : (text.drop at0).length = text.length - at0 := List.length_drop
  by_cases he : at0 + pass false (text.drop at0) = text.length
  · have he' : pass false (text.drop at0) = (text.drop at0).length := by omega
    rw [if_pos he, if_pos he']
    simp [outR, lineOf]
  · have he' : ¬ pass false (text.drop at0) = (text.drop at0).length := by omega
    rw [if_neg he, if_neg he']
    have e1 : (text.drop at0).drop (pass false (text.drop at0)) = text.drop (at0 + pass false (text.drop at0)) := by rw [List.drop_drop]
    rw [e1]
    generalize at0 + pass false (text.drop at0) = a
    have e2 : (text.drop a).getD 0 0 = text.getD a 0 := by simp [List.getD_eq_getElem?_getD]
    unfold tokD
    simp only [e2]
    generalize cls (text.getD a 0) = c
    generalize (text.drop a).take (endL (text.drop a)) = s
    by_cases c3 : c = 3
    · simp only [c3, if_true]
      cases hn : numL 0 s <;> simp [outR, lineOf]
    · simp only [c3, if_false]
      by_cases c4 : c = 4
      · simp [c4, outR, lineOf]
      · simp only [c4, if_false]
        split <;> simp [outR, lineOf]
theorem cntS_add (c : UInt8) : ∀ (l : List UInt8) (n m : Nat), cntS c l (n + m) = cntS c l n + m
  | [], _, _ => rfl
  | b :: l, n, m => by
    unfold cntS
    rw [show (if b = c then n + m + 1 else n + m) = (if b = c then n + 1 else n) + m by split <;> omega]
    exact cntS_add c l _ m
theorem cntS_append (c : UInt8) : ∀ (k l : List UInt8) (n : Nat), cntS c (k ++ l) n = cntS c l (cntS c k n)
  | [], _, _ => rfl
  | b :: k, l, n => by
    exact cntS_append c k l (if b = c then n + 1 else n)
theorem cntS_append0 (c : UInt8) (k l : List UInt8) : cntS c (k ++ l) 0 = cntS c k 0 + cntS c l 0 := by
  rw [cntS_append]
  have := cntS_add c l 0 (cntS c k 0)
  rw [Nat.zero_add] at this
  omega
/-- what stands ahead -/
theorem nextR_ahead {text ahead : List UInt8} {k : Nat} (h : k ≤ text.length) : nextR (ahead ++ text) (ahead.length + k) = outR (nextD (text.drop k)) (lineOf text (k + pass false (text.drop k)) + cntS 10 ahead 0) (ahead.length + (k + pass false (text.drop k))) := by
  rw [nextR_eq (by simp; omega)]
  have e : (ahead ++ text).drop (ahead.length + k) = text.drop k := by rw [← List.drop_drop, List.drop_left]
  rw [e, Nat.add_assoc]
  congr 1
  unfold lineOf
  rw [List.take_length_add_append, cntS_append0]
  omega
theorem pass_take : ∀ (b : Bool) (l : List UInt8), pass b (l.take (pass b l)) = pass b l
  | true, [] => rfl
  | false, [] => rfl
  | true, c :: r => by
    simp only [pass]
    rw [Nat.add_comm 1, List.take_succ_cons]
    simp only [pass]
    by_cases hc : c = 10
    · simp only [hc, if_true, pass_take false r]; omega
    · simp only [hc, if_false, pass_take true r]; omega
  | false, c :: r => by
    simp only [pass]
    by_cases hb : isBlank c = true
    · simp only [hb, if_true]
      rw [Nat.add_comm 1, List.take_succ_cons]
      simp only [pass, hb, if_true, pass_take false r]; omega
    · by_cases hc : c = 35
      · simp only [hb, hc, if_true]
        rw [if_neg (by decide), Nat.add_comm 1, List.take_succ_cons]
        simp only [pass]
        rw [if_neg (by decide), if_pos trivial, pass_take true r]; omega
      · simp [hb, hc, pass]
theorem runL_take (first : Nat) : ∀ l, runL first (l.take (runL first l)) = runL first l
  | [] => rfl
  | c :: r => by
    simp only [runL]
    by_cases h : cls c = 3 ∨ (cls c = 4 ∧ first = 4)
    · rw [if_pos h, Nat.add_comm 1, List.take_succ_cons]
      simp only [runL]
      rw [if_pos h, runL_take first r]; omega
    · rw [if_neg h]; rfl
theorem endL_take : ∀ l, endL (l.take (endL l)) = endL l
  | [] => rfl
  | c :: r => by
    by_cases h5 : cls c = 5
    · by_cases h2 : (c :: r).take 2 = [45, 62] ∨ (c :: r).take 2 = [61, 61]
      · have e : endL (c :: r) = 2 := by simp only [endL]; rw [if_pos h5, if_pos h2]
        rw [e]
        rcases h2 with h | h <;> (rw [h]; decide)
      · have e : endL (c :: r) = 1 := by simp only [endL]; rw [if_pos h5, if_neg h2]
        rw [e]
        show endL [c] = 1
        simp only [endL]
        rw [if_pos h5, if_neg (by simp)]
    · have e : ∀ r, endL (c :: r) = runL (cls c) r + 1 := by intro r; simp only [endL]; rw [if_neg h5, Nat.add_comm]
      rw [e, List.take_succ_cons, e, runL_take]
theorem endL_le : ∀ l, endL l ≤ l.length
  | [] => Nat.le_refl _
  | c :: r => by
    have := runL_le (cls c) r
    simp only [endL, List.length_cons]
    split
    · split
      · rename_i h
        rcases r with _ | ⟨d, r⟩
        · simp at h
        · simp
      · omega
    · omega
theorem endL_pos {l : List UInt8} (h : l ≠ []) : 0 < endL l := by
  cases l with
  | nil => exact absurd rfl h
  | cons c r =>
    simp only [endL]
    split
    · split <;> omega
    · omega
theorem pass_stop : ∀ (b : Bool) (l : List UInt8), pass false (l.drop (pass b l)) = 0
  | true, [] => rfl
  | false, [] => rfl
  | true, c :: r => by
    simp only [pass]
    rw [Nat.add_comm 1, List.drop_succ_cons]
    by_cases hc : c = 10
    · simp only [hc, if_true]; exact pass_stop false r
    · simp only [hc, if_false]; exact pass_stop true r
  | false, c :: r => by
    simp only [pass]
    by_cases hb : isBlank c = true
    · simp only [hb, if_true]
      rw [Nat.add_comm 1, List.drop_succ_cons]
      exact pass_stop false r
    · by_cases hc : c = 35
      · simp only [hb, hc, if_true]
        rw [if_neg (by decide), Nat.add_comm 1, List.drop_succ_cons]
        exact pass_stop true r
      · simp [hb, hc, pass]
/-- what is passed over, cut out -/
theorem nextD_over (d : List UInt8) : nextD (d.take (pass false d)) = some (5, [], 0, 0) := by
  have := pass_le false d
  unfold nextD
  rw [pass_take, if_pos (by simp; omega)]
theorem pass_over (d : List UInt8) : pass false (d.take (pass false d)) = (d.take (pass false d)).length := by
  have := pass_le false d
  rw [pass_take]; simp; omega
/-- a token, cut out -/
theorem nextD_alone {t : List UInt8} (h0 : pass false t = 0) (ht : t ≠ []) : pass false (t.take (endL t)) = 0 ∧ nextD (t.take (endL t)) = nextD t := by
  obtain ⟨c, r, rfl⟩ := List.exists_cons_of_ne_nil ht
  obtain ⟨m, hm⟩ : ∃ m, endL (c :: r) = m + 1 := ⟨endL (c :: r) - 1, by have := endL_pos ht; omega⟩
  have hp : pass false ((c :: r).take (endL (c :: r))) = 0 := by
    rw [hm, List.take_succ_cons]
    simp only [pass] at h0 ⊢
    split
    · rename_i hb; rw [if_pos hb] at h0; omega
    · rename_i hb
      rw [if_neg hb] at h0
      split
      · rename_i hc; rw [if_pos hc] at h0; omega
      · rfl
  refine ⟨hp, ?_⟩
  unfold nextD
  rw [hp, h0]
  have n1 : ¬ (0 = ((c :: r).take (endL (c :: r))).length) := by rw [hm]; simp
  have n2 : ¬ (0 = (c :: r).length) := by simp
  rw [if_neg n1, if_neg n2]
  simp only [List.drop_zero]
  unfold tokD
  rw [endL_take]
  have e1 : ((c :: r).take (endL (c :: r))).getD 0 0 = (c :: r).getD 0 0 := by rw [hm]; rfl
  rw [e1, List.take_take, Nat.min_self]
theorem tokD_len {t : List UInt8} {k : Int} {s : List UInt8} {n : Int} {l : Nat} (h : tokD t = some (k, s, n, l)) : l = endL t ∧ k ≠ 5 := by
  unfold tokD at h
  simp only [] at h
  split at h
  · split at h
    · simp at h; omega
    · simp at h
  · split at h
    · simp at h
      obtain ⟨hk, _, _, hl⟩ := h
      refine ⟨hl.symm, ?_⟩
      split at hk <;> omega
    · split at h
      · simp at h; omega
      · simp at h
end Go.Pe
