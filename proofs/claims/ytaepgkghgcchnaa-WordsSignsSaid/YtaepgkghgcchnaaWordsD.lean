/-
  Words: the document's answer, as plain functions, and that it is the program's. No condition.
-/
import Derived.Test.YtaepgkghgcchnaaWordsV
set_option linter.unusedVariables false
set_option linter.unusedSimpArgs false
namespace Go.Pe
open Go Go.Am Go.RowKit

def amongL (c : UInt8) : List UInt8 → Bool
  | [] => false
  | b :: r => b == c || amongL c r
def onlyL (l : List UInt8) : List UInt8 → Bool
  | [] => true
  | b :: r => amongL b l && onlyL l r
def blankT : List UInt8 := [9, 10, 13, 32]
def digitT : List UInt8 := [48, 49, 50, 51, 52, 53, 54, 55, 56, 57]
def letterT : List UInt8 := [97, 98, 99, 100, 101, 102, 103, 104, 105, 106, 107, 108, 109, 110, 111, 112, 113, 114, 115, 116, 117, 118, 119, 120, 121, 122, 65, 66, 67, 68, 69, 70, 71, 72, 73, 74, 75, 76, 77, 78, 79, 80, 81, 82, 83, 84, 85, 86, 87, 88, 89, 90, 95]
def bothT : List UInt8 := [97, 98, 99, 100, 101, 102, 103, 104, 105, 106, 107, 108, 109, 110, 111, 112, 113, 114, 115, 116, 117, 118, 119, 120, 121, 122, 65, 66, 67, 68, 69, 70, 71, 72, 73, 74, 75, 76, 77, 78, 79, 80, 81, 82, 83, 84, 85, 86, 87, 88, 89, 90, 95, 48, 49, 50, 51, 52, 53, 54, 55, 56, 57]
def signT : List UInt8 := [60, 43, 45, 42, 40, 41, 123, 125, 59]
/-- a truth of all bytes -/
theorem all_bytes {p : UInt8 → Bool} (h : ((List.range 256).all fun i => p (UInt8.ofNat i)) = true) (c : UInt8) : p c = true := by
  rw [List.all_eq_true] at h
  have := h c.toNat (by have := c.toNat_lt; simp; omega)
  simpa using this
theorem among_blank (c : UInt8) : amongL c blankT = isBlank c := by
  have := all_bytes (p := fun c => amongL c blankT == isBlank c) (by decide +kernel) c
  simpa using this
theorem among_digit (c : UInt8) : amongL c digitT = decide (cls c = 3) := by
  have := all_bytes (p := fun c => amongL c digitT == decide (cls c = 3)) (by decide +kernel) c
  simpa using this
theorem among_letter (c : UInt8) : amongL c letterT = decide (cls c = 4) := by
  have := all_bytes (p := fun c => amongL c letterT == decide (cls c = 4)) (by decide +kernel) c
  simpa using this
theorem among_both (c : UInt8) : amongL c bothT = (decide (cls c = 3) || decide (cls c = 4)) := by
  have := all_bytes (p := fun c => amongL c bothT == (decide (cls c = 3) || decide (cls c = 4))) (by decide +kernel) c
  simpa using this
theorem among_sign (c : UInt8) : amongL c signT = (decide (cls c = 5) && decide (c ≠ 61)) := by
  have := all_bytes (p := fun c => amongL c signT == (decide (cls c = 5) && decide (c ≠ 61))) (by decide +kernel) c
  simpa using this
/-- is it passed over? -/
def overL : Bool → List UInt8 → Bool
  | _, [] => true
  | r, c :: t => if c = 10 then overL false t else if c = 35 then overL true t else if r then overL r t else if amongL c blankT then overL r t else false
theorem over_take : ∀ (b : Bool) (d : List UInt8) (j : Nat), j ≤ d.length → overL b (d.take j) = decide (j ≤ pass b d)
  | b, d, 0, _ => by simp [overL]
  | b, [], j + 1, h => by simp at h
  | true, c :: r, j + 1, h => by
    simp only [List.length_cons] at h
    rw [List.take_succ_cons]
    have i1 := over_take true r j (by omega)
    have i2 := over_take false r j (by omega)
    simp only [overL, pass]
    by_cases h1 : c = 10
    · simp only [h1, if_true, i2]
      rw [decide_eq_decide]; omega
    · by_cases h2 : c = 35
      · simp only [h1, h2, if_true, if_false, i1]
        rw [if_neg (by decide), decide_eq_decide, if_neg (by decide)]; omega
      · simp only [h1, h2, if_true, if_false, i1]
        rw [decide_eq_decide]; omega
  | false, c :: r, j + 1, h => by
    simp only [List.length_cons] at h
    rw [List.take_succ_cons]
    have i1 := over_take true r j (by omega)
    have i2 := over_take false r j (by omega)
    simp only [overL, pass, among_blank]
    by_cases h1 : c = 10
    · subst h1
      simp only [if_true, i2, show isBlank 10 = true from rfl]
      rw [decide_eq_decide]; omega
    · by_cases h2 : c = 35
      · subst h2
        simp only [if_true, i1, show isBlank 35 = false from rfl]
        rw [if_neg (by decide)]
        simp only [Bool.false_eq_true, if_false]
        rw [decide_eq_decide]; omega
      · by_cases h3 : isBlank c = true
        · simp only [h1, h2, h3, if_true, if_false, i2, Bool.false_eq_true]
          rw [decide_eq_decide]; omega
        · simp [h1, h2, h3]
/-- the keys -/
def keyWs : List (List UInt8) := [[97, 99, 113, 117, 105, 114, 101], [97, 100, 100], [97, 114, 114, 105, 118, 101], [98, 97, 114, 114, 105, 101, 114], [98, 114, 111, 97, 100, 99, 97, 115, 116], [99, 111, 110, 100], [100, 111], [100, 111, 110, 101], [101, 108, 115, 101], [105, 102], [108, 111, 99, 107], [108, 111, 99, 107, 102, 111, 114], [108, 111, 111, 112], [109, 117, 116, 101, 120], [111, 110, 99, 101], [112, 117, 116], [113, 117, 101, 117, 101], [114, 101, 97, 100], [114, 101, 108, 101, 97, 115, 101], [114, 108, 111, 99, 107], [114, 117, 110, 108, 111, 99, 107], [114, 119, 108, 111, 99, 107], [115, 101, 109], [115, 101, 116], [115, 105, 103, 110, 97, 108], [116, 97, 107, 101], [116, 104, 114, 101, 97, 100], [116, 114, 121, 97, 99, 113, 117, 105, 114, 101], [116, 114, 121, 108, 111, 99, 107], [117, 110, 108, 111, 99, 107], [118, 97, 114], [119, 97, 105, 116], [119, 97, 105, 116, 102, 111, 114], [119, 97, 105, 116, 111, 110], [119, 108, 111, 99, 107], [119, 114, 105, 116, 101], [119, 117, 110, 108, 111, 99, 107]]
def keyL (s : List UInt8) : Bool := keyWs.any (· == s)
def joinW : List (List UInt8) → List UInt8
  | [] => []
  | w :: r => w ++ 32 :: joinW r
theorem keyText_eq : keyText = 32 :: joinW keyWs := by kernel_rfl
theorem pre_word : ∀ (s w rest : List UInt8), 32 ∉ s → 32 ∉ w → (s ++ [32]).isPrefixOf (w ++ 32 :: rest) = (w == s)
  | [], [], rest, _, _ => by simp [List.isPrefixOf]
  | [], c :: w, rest, _, h => by
    have : c ≠ 32 := fun e => h (by simp [e])
    have : (32 == c) = false := by simpa using fun e => this e.symm
    simp [List.isPrefixOf, this]
  | c :: s, [], rest, h, _ => by
    have : c ≠ 32 := fun e => h (by simp [e])
    simp [List.isPrefixOf, this]
  | c :: s, d :: w, rest, h, h2 => by
    have ih := pre_word s w rest (fun e => h (List.mem_cons_of_mem _ e)) (fun e => h2 (List.mem_cons_of_mem _ e))
    simp only [List.cons_append, List.isPrefixOf, ih]
    by_cases e : c = d
    · subst e; simp
    · have e' : ¬ d = c := fun h => e h.symm
      have : (c == d) = false := by simpa using e
      simp [this, e']
theorem has_skip (sub : List UInt8) : ∀ (w rest : List UInt8), 32 ∉ w → hasS (32 :: sub) (w ++ rest) = hasS (32 :: sub) rest
  | [], _, _ => rfl
  | c :: w, rest, h => by
    have hc : (32 == c) = false := by
      have : c ≠ 32 := fun e => h (by simp [e])
      simpa using fun e => this e.symm
    rw [List.cons_append, hasS]
    simp only [List.isPrefixOf, hc, Bool.false_and, Bool.false_or]
    exact has_skip sub w rest (fun e => h (List.mem_cons_of_mem _ e))
theorem has_join (s : List UInt8) (hs : 32 ∉ s) : ∀ ws : List (List UInt8), (∀ w ∈ ws, 32 ∉ w) → hasS (32 :: s ++ [32]) (32 :: joinW ws) = ws.any (· == s)
  | [], _ => by
    have : (s ++ [32]).isPrefixOf ([] : List UInt8) = false := by cases s <;> rfl
    simp only [joinW, List.cons_append, hasS, List.isPrefixOf, this]
    simp
  | w :: ws, h => by
    have hw := h w List.mem_cons_self
    rw [List.cons_append, hasS]
    simp only [List.isPrefixOf, joinW, pre_word s w (joinW ws) hs hw, List.any_cons]
    rw [has_skip _ w _ hw]
    have := has_join s hs ws (fun v hv => h v (List.mem_cons_of_mem _ hv))
    rw [List.cons_append] at this
    rw [this]; simp
theorem key_eq (s : List UInt8) (h : 32 ∉ s) : hasS (32 :: s ++ [32]) keyText = keyL s := by
  rw [keyText_eq]
  refine has_join s h keyWs ?_
  have : (keyWs.all fun w => !w.contains 32) = true := by decide
  intro w hw
  rw [List.all_eq_true] at this
  simpa using this w hw
/-- what a piece is by itself -/
def kindL (s : List UInt8) : Nat :=
  match s with
  | [] => 0
  | c :: r => if onlyL digitT s then 1 else if amongL c letterT && onlyL bothT s then (if keyL s then 3 else 2) else if s == [45, 62] || s == [61, 61] || (s.length == 1 && amongL c signT) then 4 else 0
theorem only_run (first : Nat) (l : List UInt8) (hl : ∀ c, amongL c l = decide (cls c = 3 ∨ (cls c = 4 ∧ first = 4))) : ∀ (t : List UInt8) (j : Nat), j ≤ t.length → onlyL l (t.take j) = decide (j ≤ runL first t)
  | _, 0, _ => by simp [onlyL]
  | [], j + 1, h => by simp at h
  | c :: r, j + 1, h => by
    simp only [List.length_cons] at h
    rw [List.take_succ_cons]
    have ih := only_run first l hl r j (by omega)
    by_cases h3 : cls c = 3 ∨ (cls c = 4 ∧ first = 4)
    · have e : runL first (c :: r) = 1 + runL first r := by simp only [runL]; rw [if_pos h3]
      simp only [onlyL, hl, ih, h3, decide_true, Bool.true_and, e]
      rw [decide_eq_decide]; omega
    · have e : runL first (c :: r) = 0 := by simp only [runL]; rw [if_neg h3]
      simp [onlyL, hl, h3, e]
theorem only_digit (t : List UInt8) (j : Nat) (h : j ≤ t.length) : onlyL digitT (t.take j) = decide (j ≤ runL 3 t) :=
  only_run 3 digitT (fun c => by rw [among_digit]; simp) t j h
theorem only_both (t : List UInt8) (j : Nat) (h : j ≤ t.length) : onlyL bothT (t.take j) = decide (j ≤ runL 4 t) :=
  only_run 4 bothT (fun c => by rw [among_both]; simp) t j h
/-- the kind of the first bytes of what stands there -/
theorem kind_take {c : UInt8} {r : List UInt8} {j : Nat} (hj : 0 < j) (hl : j ≤ r.length + 1) : 0 < kindL ((c :: r).take j) ↔
    (cls c = 3 ∧ j ≤ endL (c :: r)) ∨ (cls c = 4 ∧ j ≤ endL (c :: r)) ∨ (cls c = 5 ∧ j = endL (c :: r) ∧ (c :: r).take j ≠ [61]) ∨ (cls c = 5 ∧ j = 1 ∧ c = 45) := by
  obtain ⟨m, rfl⟩ : ∃ m, j = m + 1 := ⟨j - 1, by omega⟩
  have e1 := only_digit (c :: r) (m + 1) (by simpa using hl)
  have e2 := only_both (c :: r) (m + 1) (by simpa using hl)
  rw [List.take_succ_cons] at e1 e2 ⊢
  unfold kindL
  simp only [e1, e2, among_letter, among_sign]
  by_cases h3 : cls c = 3
  · have n4 : ¬ cls c = 4 := by omega
    have n5 : ¬ cls c = 5 := by omega
    have q1 : ¬ ((c :: r.take m) = [45, 62]) := by
      intro e; injection e with e1 e2; rw [e1] at h3; revert h3; decide
    have q2 : ¬ ((c :: r.take m) = [61, 61]) := by
      intro e; injection e with e1 e2; rw [e1] at h3; revert h3; decide
    have hE : endL (c :: r) = runL 3 (c :: r) := by
      simp [endL, runL, h3]
    by_cases hm : m + 1 ≤ runL 3 (c :: r)
    · simp [h3, hE, hm]
    · have a1 : (c :: r.take m == [45, 62]) = false := by simpa using q1
      have a2 : (c :: r.take m == [61, 61]) = false := by simpa using q2
      simp [h3, hE, hm, a1, a2]
  · have hr3 : runL 3 (c :: r) = 0 := by simp [runL, h3]
    have hm0 : ¬ (m + 1 ≤ runL 3 (c :: r)) := by omega
    by_cases h4 : cls c = 4
    · have n5 : ¬ cls c = 5 := by omega
      have q1 : ¬ ((c :: r.take m) = [45, 62]) := by
        intro e; injection e with e1 e2; rw [e1] at h4; revert h4; decide
      have q2 : ¬ ((c :: r.take m) = [61, 61]) := by
        intro e; injection e with e1 e2; rw [e1] at h4; revert h4; decide
      have hE : endL (c :: r) = runL 4 (c :: r) := by
        simp [endL, runL, h4]
      by_cases hm : m + 1 ≤ runL 4 (c :: r)
      · simp only [h3, h4, hE, hm, hm0, decide_true, decide_false, Bool.and_self, if_true]
        by_cases hk : keyL (c :: r.take m) = true <;> simp [hk]
      · have a1 : (c :: r.take m == [45, 62]) = false := by simpa using q1
        have a2 : (c :: r.take m == [61, 61]) = false := by simpa using q2
        simp [h4, hE, hm, hm0, a1, a2]
    · by_cases h5 : cls c = 5
      · simp only [h3, h4, hm0, h5, decide_true, decide_false, Bool.false_and, Bool.true_and]
        have hE : endL (c :: r) = if (c :: r).take 2 = [45, 62] ∨ (c :: r).take 2 = [61, 61] then 2 else 1 := by simp only [endL]; rw [if_pos h5]
        cases m with
        | zero =>
          simp only [List.take_zero]
          have h1 : endL (c :: r) = 1 ∨ endL (c :: r) = 2 := by rw [hE]; split <;> simp
          by_cases h45 : c = 45
          · subst h45; simp
          · by_cases h61 : c = 61
            · subst h61; simp
            · have hE1 : endL (c :: r) = 1 := by
                rw [hE, if_neg]
                rcases r with _ | ⟨d, r⟩ <;> simp [h45, h61]
              simp [h45, h61, hE1]
        | succ m =>
          cases m with
          | zero =>
            rcases r with _ | ⟨d, r⟩
            · simp at hl
            · simp only [List.take_succ_cons, List.take_zero]
              by_cases hh : [c, d] = [45, 62] ∨ [c, d] = [61, 61]
              · have hE2 : endL (c :: d :: r) = 2 := hE.trans (if_pos hh)
                rcases hh with hh | hh <;> simp [hh, hE2]
              · have hE2 : endL (c :: d :: r) = 1 := hE.trans (if_neg hh)
                simp only [not_or] at hh
                have a1 : ([c, d] == [45, 62]) = false := by simpa using hh.1
                have a2 : ([c, d] == [61, 61]) = false := by simpa using hh.2
                simp [a1, a2, hE2]
          | succ m =>
            have h1 : endL (c :: r) = 1 ∨ endL (c :: r) = 2 := by rw [hE]; split <;> simp
            rcases r with _ | ⟨d, _ | ⟨e, r⟩⟩
            · simp at hl
            · simp at hl
            · simp only [List.take_succ_cons]
              simp
              omega
      · have q1 : ¬ ((c :: r.take m) = [45, 62]) := by
          intro e; injection e with e1 e2; rw [e1] at h5; revert h5; decide
        have q2 : ¬ ((c :: r.take m) = [61, 61]) := by
          intro e; injection e with e1 e2; rw [e1] at h5; revert h5; decide
        have a1 : (c :: r.take m == [45, 62]) = false := by simpa using q1
        have a2 : (c :: r.take m == [61, 61]) = false := by simpa using q2
        simp [h3, h4, h5, hm0, a1, a2]
end Go.Pe
