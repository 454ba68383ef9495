/-
  Words: signs, and bytes that begin nothing. No condition.
-/
import Derived.Test.YtaepgkghgcchnaaWordsJ
set_option linter.unusedVariables false
set_option linter.unusedSimpArgs false
namespace Go.Pe
open Go Go.Am Go.RowKit

def signsL : List (List UInt8) := [[45, 62], [61, 61], [60], [43], [45], [42], [40], [41], [123], [125], [59]]
def wantF (s b : List UInt8) : List UInt8 := if s == [45] && [62].isPrefixOf b then [45, 62] else s
theorem sign_one (c : UInt8) (b : List UInt8) (h5 : cls c = 5) (hb : isBlank c = false) (h35 : c ≠ 35) (hE : endL (c :: b) = 1) (h61 : c ≠ 61) : pass false (c :: b) = 0 ∧ nextD (c :: b) = some (4, [c], 0, 1) := by
  have hp : pass false (c :: b) = 0 := by simp only [pass]; rw [if_neg (by simp [hb]), if_neg h35]
  refine ⟨hp, ?_⟩
  unfold nextD
  rw [hp, if_neg (by simp)]
  unfold tokD
  simp only [List.drop_zero, hE]
  have g0 : (c :: b).getD 0 0 = c := rfl
  simp [h5, h61]
theorem sign_two (c d : UInt8) (b : List UInt8) (h : [c, d] = [45, 62] ∨ [c, d] = [61, 61]) : pass false (c :: d :: b) = 0 ∧ nextD (c :: d :: b) = some (4, [c, d], 0, 2) := by
  have h5 : cls c = 5 ∧ isBlank c = false ∧ c ≠ 35 := by
    rcases h with h | h <;> (injection h with h1 h2; subst h1; decide)
  have hp : pass false (c :: d :: b) = 0 := by simp only [pass]; rw [if_neg (by simp [h5.2.1]), if_neg h5.2.2]
  have hE : endL (c :: d :: b) = 2 := by
    simp only [endL]
    rw [if_pos h5.1]
    exact if_pos h
  refine ⟨hp, ?_⟩
  unfold nextD
  rw [hp, if_neg (by simp)]
  unfold tokD
  simp only [List.drop_zero, hE]
  have g0 : (c :: d :: b).getD 0 0 = c := rfl
  have ht : List.take 2 (c :: d :: b) = [c, d] := rfl
  simp [h5.1]
theorem sign_next (b : List UInt8) : ∀ s ∈ signsL, pass false (s ++ b) = 0 ∧ nextD (s ++ b) = some (4, wantF s b, 0, (wantF s b).length) := by
  have one : ∀ c : UInt8, cls c = 5 → isBlank c = false → c ≠ 35 → c ≠ 61 → c ≠ 45 → pass false ([c] ++ b) = 0 ∧ nextD ([c] ++ b) = some (4, wantF [c] b, 0, (wantF [c] b).length) := by
    intro c h5 hb h35 h61 h45
    have hE : endL (c :: b) = 1 := by
      simp only [endL]
      rw [if_pos h5, if_neg]
      rcases b with _ | ⟨d, b⟩ <;> simp [h61, h45]
    have hw : wantF [c] b = [c] := by simp [wantF, h45]
    rw [hw]
    exact sign_one c b h5 hb h35 hE h61
  intro s hs
  simp only [signsL, List.mem_cons, List.not_mem_nil, or_false] at hs
  rcases hs with rfl | rfl | rfl | rfl | rfl | rfl | rfl | rfl | rfl | rfl | rfl
  · exact sign_two 45 62 b (.inl rfl)
  · exact sign_two 61 61 b (.inr rfl)
  · exact one _ (by decide) (by decide) (by decide) (by decide) (by decide)
  · exact one _ (by decide) (by decide) (by decide) (by decide) (by decide)
  · rcases b with _ | ⟨d, b⟩
    · exact sign_one 45 [] (by decide) (by decide) (by decide) (by decide) (by decide)
    · by_cases hd : d = 62
      · subst hd
        exact sign_two 45 62 b (.inl rfl)
      · have hE : endL (45 :: d :: b) = 1 := by
          simp only [endL]
          rw [if_pos (by decide), if_neg]
          simp [hd]
        have hw : wantF [45] (d :: b) = [45] := by
          have : (62 == d) = false := by simpa using fun e => hd e.symm
          simp [wantF, List.isPrefixOf, this]
        rw [hw]
        exact sign_one 45 (d :: b) (by decide) (by decide) (by decide) hE (by decide)
  · exact one _ (by decide) (by decide) (by decide) (by decide) (by decide)
  · exact one _ (by decide) (by decide) (by decide) (by decide) (by decide)
  · exact one _ (by decide) (by decide) (by decide) (by decide) (by decide)
  · exact one _ (by decide) (by decide) (by decide) (by decide) (by decide)
  · exact one _ (by decide) (by decide) (by decide) (by decide) (by decide)
  · exact one _ (by decide) (by decide) (by decide) (by decide) (by decide)
/-- a sign, as the law asks it -/
theorem is_sign {s b : List UInt8} (hs : s ∈ signsL) (hl : (s ++ b).length ≤ 16384) : gIs [.s (s ++ b), .i .i64 (.ofNat 0), .agg [.i .u8 (.ofNat 4), .s (wantF s b), .i .i64 (.ofNat 0), .i .i64 (.ofNat 1), .i .i64 (.ofNat 0), .i .i64 ((wantF s b).length : Int)]] = some (.b true) := by
  obtain ⟨h1, h2⟩ := sign_next b s hs
  generalize s ++ b = t at *
  have g : gNext [.s t, .i .i64 (.ofNat 0)] = some (nextR t 0) := by
    unfold gNext
    show some (if 16384 < t.length then faultR 3 0 else if (0 : Int) < 0 ∨ (t.length : Int) < 0 then faultR 2 0 else nextR t 0) = _
    rw [if_neg (by omega), if_neg (by omega)]
  rw [nextR_eq (Nat.zero_le _)] at g
  simp only [List.drop_zero, Nat.zero_add, h1, h2, outR, lineOf, List.take_zero] at g
  unfold gIs
  exact if_pos g
def oddT : List UInt8 := [33, 34, 36, 37, 38, 39, 44, 46, 47, 58, 62, 63, 64, 91, 92, 93, 94, 96, 124, 126]
/-- does a byte begin nothing? -/
def oddC (c : UInt8) : Bool := decide (c.toNat ≥ 128) || (decide (posS c oddT 0 ≥ 0) || ((((decide (c.toNat < 32) && decide (c.toNat ≠ 9)) && decide (c.toNat ≠ 10)) && decide (c.toNat ≠ 13)) || decide (c.toNat = 127)))
theorem odd_cls {c : UInt8} (h : oddC c = true) : cls c = 0 ∧ isBlank c = false ∧ c ≠ 35 := by
  have := all_bytes (p := fun c => !oddC c || (decide (cls c = 0) && !isBlank c && decide (c ≠ 35))) (by decide +kernel) c
  simpa [h, and_assoc] using this
theorem not_odd {c : UInt8} (h : oddC c = true) (b : List UInt8) (hl : b.length ≤ 1000) : gNot [.s (c :: b), .i .i64 (.ofNat 0), .i .i64 (.ofNat 1)] = some (.b true) ∧ gNot [.s (10 :: 32 :: c :: b), .i .i64 (.ofNat 0), .i .i64 (.ofNat 2)] = some (.b true) := by
  obtain ⟨h0, hb, h35⟩ := odd_cls h
  have hp : pass false (c :: b) = 0 := by simp only [pass]; rw [if_neg (by simp [hb]), if_neg h35]
  have hp2 : pass false (10 :: 32 :: c :: b) = 2 := by
    have : pass false (10 :: 32 :: c :: b) = 1 + (1 + pass false (c :: b)) := by
      simp only [pass]
      rw [if_pos (by decide), if_pos (by decide)]
    rw [this, hp]
  have ht : tokD (c :: b) = none := by
    unfold tokD
    have g0 : (c :: b).getD 0 0 = c := rfl
    simp [h0]
  have n1 : nextD (c :: b) = none := by
    unfold nextD
    rw [hp, if_neg (by simp)]
    exact ht
  have n2 : nextD (10 :: 32 :: c :: b) = none := by
    unfold nextD
    rw [hp2, if_neg (by simp)]
    exact ht
  constructor
  · have g : gNext [.s (c :: b), .i .i64 (.ofNat 0)] = some (nextR (c :: b) 0) := by
      unfold gNext
      show some (if 16384 < (c :: b).length then faultR 3 0 else if (0 : Int) < 0 ∨ ((c :: b).length : Int) < 0 then faultR 2 0 else nextR (c :: b) 0) = _
      rw [if_neg (by simp; omega), if_neg (by omega)]
    rw [nextR_eq (Nat.zero_le _)] at g
    simp only [List.drop_zero, Nat.zero_add, hp, n1, outR, lineOf, List.take_zero] at g
    unfold gNot
    exact if_pos g
  · have g : gNext [.s (10 :: 32 :: c :: b), .i .i64 (.ofNat 0)] = some (nextR (10 :: 32 :: c :: b) 0) := by
      unfold gNext
      show some (if 16384 < (10 :: 32 :: c :: b).length then faultR 3 0 else if (0 : Int) < 0 ∨ ((10 :: 32 :: c :: b).length : Int) < 0 then faultR 2 0 else nextR (10 :: 32 :: c :: b) 0) = _
      rw [if_neg (by simp; omega), if_neg (by omega)]
    rw [nextR_eq (Nat.zero_le _)] at g
    simp only [List.drop_zero, Nat.zero_add, hp2, n2, outR, lineOf] at g
    unfold gNot
    exact if_pos g
def gPrefix : List PV → Option PV
  | [.s a, .s b] => if a.length ≤ 16384 ∧ b.length ≤ 16384 then some (.b (b.isPrefixOf a)) else none
  | _ => none
end Go.Pe
