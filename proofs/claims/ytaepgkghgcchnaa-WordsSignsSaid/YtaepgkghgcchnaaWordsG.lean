/-
  Words: numbers by their value; the document's answer as one function: it is the program's. No condition.
-/
import Derived.Test.YtaepgkghgcchnaaWordsD
set_option linter.unusedVariables false
set_option linter.unusedSimpArgs false
namespace Go.Pe
open Go Go.Am Go.RowKit

def valL : Nat → List UInt8 → Nat
  | n, [] => n
  | n, c :: r => valL (n * 10 + (c.toNat - 48)) r
def digs (l : List UInt8) : Prop := ∀ c ∈ l, 48 ≤ c.toNat ∧ c.toNat ≤ 57
theorem digs_of {l : List UInt8} (h : onlyL digitT l = true) : digs l := by
  induction l with
  | nil => intro c hc; simp at hc
  | cons b r ih =>
    simp only [onlyL, Bool.and_eq_true] at h
    have hb : 48 ≤ b.toNat ∧ b.toNat ≤ 57 := by
      have := all_bytes (p := fun c => !amongL c digitT || (decide (48 ≤ c.toNat) && decide (c.toNat ≤ 57))) (by decide +kernel) b
      simpa [h.1] using this
    intro c hc
    rcases List.mem_cons.1 hc with rfl | hc
    · exact hb
    · exact ih h.2 c hc
theorem digs.tail {c : UInt8} {r : List UInt8} (h : digs (c :: r)) : digs r := fun x hx => h x (List.mem_cons_of_mem _ hx)
theorem digs.head {c : UInt8} {r : List UInt8} (h : digs (c :: r)) : 48 ≤ c.toNat ∧ c.toNat ≤ 57 := h c List.mem_cons_self
theorem valL_ge (l : List UInt8) : ∀ n : Nat, n * 10 ^ l.length ≤ valL n l := by
  induction l with
  | nil =>
    intro n
    rw [List.length_nil, Nat.pow_zero, Nat.mul_one]
    exact Nat.le_refl _
  | cons c r ih =>
    intro n
    have := ih (n * 10 + (c.toNat - 48))
    have e : n * 10 ^ (c :: r).length = n * 10 * 10 ^ r.length := by
      rw [List.length_cons, Nat.pow_succ, Nat.mul_comm (10 ^ r.length) 10, ← Nat.mul_assoc]
    rw [e]
    have h2 : n * 10 * 10 ^ r.length ≤ (n * 10 + (c.toNat - 48)) * 10 ^ r.length := Nat.mul_le_mul_right _ (Nat.le_add_right _ _)
    exact Nat.le_trans h2 this
theorem valL_self (l : List UInt8) (n : Nat) : n ≤ valL n l := by
  have := valL_ge l n
  have h2 : 0 < 10 ^ l.length := Nat.pow_pos (by omega)
  exact Nat.le_trans (Nat.le_mul_of_pos_right _ h2) this
theorem valL_lt (l : List UInt8) : ∀ n : Nat, digs l → valL n l < (n + 1) * 10 ^ l.length := by
  induction l with
  | nil =>
    intro n _
    rw [List.length_nil, Nat.pow_zero, Nat.mul_one]
    exact Nat.lt_succ_self _
  | cons c r ih =>
    intro n h
    have := ih (n * 10 + (c.toNat - 48)) h.tail
    have hc := h.head
    have e : (n + 1) * 10 ^ (c :: r).length = (n + 1) * 10 * 10 ^ r.length := by
      rw [List.length_cons, Nat.pow_succ, Nat.mul_comm (10 ^ r.length) 10, ← Nat.mul_assoc]
    rw [e]
    have h2 : (n * 10 + (c.toNat - 48) + 1) * 10 ^ r.length ≤ (n + 1) * 10 * 10 ^ r.length := Nat.mul_le_mul_right _ (by omega)
    exact Nat.lt_of_lt_of_le this h2
theorem num_val (l : List UInt8) : ∀ n : Nat, digs l → n ≤ 9223372036854775807 → numL n l = if valL n l ≤ 9223372036854775807 then some (valL n l) else none := by
  induction l with
  | nil =>
    intro n _ hn
    have e1 : numL n [] = some n := rfl
    have e2 : valL n [] = n := rfl
    rw [e1, e2, if_pos hn]
  | cons c r ih =>
    intro n h hn
    have hc := h.head
    have e : (c.toNat + 208) % 256 = c.toNat - 48 := by omega
    have ev : valL n (c :: r) = valL (n * 10 + (c.toNat - 48)) r := rfl
    have en : numL n (c :: r) = if (9223372036854775807 - (c.toNat + 208) % 256) / 10 < n then none else numL (n * 10 + (c.toNat + 208) % 256) r := by rw [numL]
    rw [ev, en, e]
    have hs := valL_self r (n * 10 + (c.toNat - 48))
    by_cases hg : (9223372036854775807 - (c.toNat - 48)) / 10 < n
    · rw [if_pos hg]
      generalize valL (n * 10 + (c.toNat - 48)) r = v at *
      have : ¬ v ≤ 9223372036854775807 := by omega
      rw [if_neg this]
    · rw [if_neg hg]
      exact ih _ h.tail (by omega)
/-- without the noughts ahead -/
def stripL : List UInt8 → List UInt8
  | [] => []
  | [c] => [c]
  | c :: d :: r => if c = 48 then stripL (d :: r) else c :: d :: r
theorem strip_val : ∀ (l : List UInt8), valL 0 (stripL l) = valL 0 l
  | [] => rfl
  | [c] => rfl
  | c :: d :: r => by
    unfold stripL
    split
    · rename_i h
      rw [strip_val (d :: r)]
      subst h
      rfl
    · rfl
theorem strip_digs : ∀ {l : List UInt8}, digs l → digs (stripL l)
  | [], h => h
  | [c], h => h
  | c :: d :: r, h => by
    unfold stripL
    split
    · exact strip_digs h.tail
    · exact h
theorem strip_len : ∀ (l : List UInt8), (stripL l).length ≤ l.length
  | [] => Nat.le_refl _
  | [c] => Nat.le_refl _
  | c :: d :: r => by
    unfold stripL
    split
    · have := strip_len (d :: r)
      simp only [List.length_cons] at this ⊢; omega
    · exact Nat.le_refl _
theorem strip_head : ∀ (l : List UInt8), (stripL l).length ≤ 1 ∨ ∃ c r, stripL l = c :: r ∧ c ≠ 48
  | [] => .inl (by simp [stripL])
  | [c] => .inl (by simp [stripL])
  | c :: d :: r => by
    unfold stripL
    split
    · exact strip_head (d :: r)
    · rename_i h; exact .inr ⟨c, d :: r, rfl, h⟩
theorem strip_long {l : List UInt8} (h : digs l) (h2 : 19 < (stripL l).length) : 9223372036854775807 < valL 0 l := by
  rw [← strip_val]
  have hd := strip_digs h
  rcases strip_head l with h1 | ⟨c, r, e, hc⟩
  · omega
  · rw [e] at h2 hd ⊢
    have hc2 := hd.head
    have hc3 : c.toNat ≠ 48 := fun e => hc (UInt8.toNat_inj.1 (by simpa using e))
    have hg := valL_ge r (0 * 10 + (c.toNat - 48))
    have hrl : 19 ≤ r.length := by simp only [List.length_cons] at h2; omega
    have h4 : 10 ^ 19 ≤ 10 ^ r.length := Nat.pow_le_pow_right (Nat.le_of_ble_eq_true rfl) hrl
    have h6 : 0 < 0 * 10 + (c.toNat - 48) := by omega
    have h5 : 10 ^ r.length ≤ (0 * 10 + (c.toNat - 48)) * 10 ^ r.length := Nat.le_mul_of_pos_left _ h6
    have h8 : 9223372036854775807 < 10 ^ 19 := Nat.le_of_ble_eq_true rfl
    exact Nat.lt_of_lt_of_le h8 (Nat.le_trans h4 (Nat.le_trans h5 hg))
theorem less_nil : Op.bytesLess [] [] = false := rfl
theorem less_cons (x y : UInt8) (a b : List UInt8) : Op.bytesLess (x :: a) (y :: b) = (decide (x < y) || (x == y && Op.bytesLess a b)) := by rw [Op.bytesLess]
theorem valL_less (a : List UInt8) : ∀ (b : List UInt8) (n : Nat), digs a → digs b → a.length = b.length → ((Op.bytesLess a b = true ↔ valL n a < valL n b) ∧ (a = b ↔ valL n a = valL n b)) := by
  induction a with
  | nil =>
    intro b n _ _ h
    cases b with
    | nil => rw [less_nil]; exact ⟨⟨fun q => by simp at q, fun q => absurd q (Nat.lt_irrefl _)⟩, ⟨fun _ => rfl, fun _ => rfl⟩⟩
    | cons y b => simp at h
  | cons x a ih =>
    intro b n ha hb h
    cases b with
    | nil => simp at h
    | cons y b =>
      simp only [List.length_cons, Nat.add_right_cancel_iff] at h
      have hx := ha.head
      have hy := hb.head
      have l1 := valL_lt a (n * 10 + (x.toNat - 48)) ha.tail
      have l2 := valL_lt b (n * 10 + (y.toNat - 48)) hb.tail
      have g1 := valL_ge a (n * 10 + (x.toNat - 48))
      have g2 := valL_ge b (n * 10 + (y.toNat - 48))
      rw [h] at l1 g1
      have ex : valL n (x :: a) = valL (n * 10 + (x.toNat - 48)) a := rfl
      have ey : valL n (y :: b) = valL (n * 10 + (y.toNat - 48)) b := rfl
      rw [less_cons, ex, ey]
      by_cases e : x = y
      · subst e
        obtain ⟨i1, i2⟩ := ih b (n * 10 + (x.toNat - 48)) ha.tail hb.tail h
        have hxx : decide (x < x) = false := by simp
        rw [hxx, Bool.false_or, beq_self_eq_true, Bool.true_and]
        exact ⟨i1, ⟨fun q => i2.1 (List.cons.inj q).2, fun q => by rw [i2.2 q]⟩⟩
      · have e' : x.toNat ≠ y.toNat := fun h => e (UInt8.toNat_inj.1 h)
        have exy : (x == y) = false := by simpa using e
        rw [exy, Bool.false_and, Bool.or_false]
        have hne : ¬ (x :: a = y :: b) := fun q => e (List.cons.inj q).1
        rcases Nat.lt_or_gt_of_ne e' with hl | hl
        · have h3 : (n * 10 + (x.toNat - 48) + 1) * 10 ^ b.length ≤ (n * 10 + (y.toNat - 48)) * 10 ^ b.length := Nat.mul_le_mul_right _ (by omega)
          have hxy : x < y := UInt8.lt_iff_toNat_lt.2 hl
          have hv := Nat.lt_of_lt_of_le l1 (Nat.le_trans h3 g2)
          exact ⟨⟨fun _ => hv, fun _ => by simpa using hxy⟩, ⟨fun q => absurd q hne, fun q => absurd q (Nat.ne_of_lt hv)⟩⟩
        · have h3 : (n * 10 + (y.toNat - 48) + 1) * 10 ^ b.length ≤ (n * 10 + (x.toNat - 48)) * 10 ^ b.length := Nat.mul_le_mul_right _ (by omega)
          have hxy : ¬ x < y := fun q => by have := UInt8.lt_iff_toNat_lt.1 q; omega
          have hv := Nat.lt_of_lt_of_le l2 (Nat.le_trans h3 g1)
          exact ⟨⟨fun q => absurd (by simpa using q) hxy, fun q => absurd q (Nat.lt_asymm hv)⟩, ⟨fun q => absurd q hne, fun q => absurd q.symm (Nat.ne_of_lt hv)⟩⟩
def mostT : List UInt8 := [57, 50, 50, 51, 51, 55, 50, 48, 51, 54, 56, 53, 52, 55, 55, 53, 56, 48, 55]
theorem most_digs : digs mostT := by
  intro c hc
  have : (mostT.all fun c => decide (48 ≤ c.toNat) && decide (c.toNat ≤ 57)) = true := by decide
  rw [List.all_eq_true] at this
  simpa using this c hc
theorem most_val : valL 0 mostT = 9223372036854775807 := by decide
theorem strip_most {l : List UInt8} (h : digs l) (h2 : (stripL l).length = 19) : (!(Op.bytesLess (stripL l) mostT || stripL l == mostT)) = decide (9223372036854775807 < valL 0 l) := by
  obtain ⟨i1, i2⟩ := valL_less (stripL l) mostT 0 (strip_digs h) most_digs (by rw [h2]; rfl)
  rw [strip_val, most_val] at i1 i2
  by_cases h3 : Op.bytesLess (stripL l) mostT = true
  · have := i1.1 h3
    rw [h3]; simp; omega
  · by_cases h4 : stripL l = mostT
    · have := i2.1 h4
      simp [h4]; omega
    · have : (stripL l == mostT) = false := by simpa using h4
      have h5 : Op.bytesLess (stripL l) mostT = false := by simpa using h3
      rw [h5, this]
      have n1 : ¬ valL 0 l < 9223372036854775807 := fun q => h3 (i1.2 q)
      have n2 : ¬ valL 0 l = 9223372036854775807 := fun q => h4 (i2.2 q)
      simp; omega
theorem pow_lt19 {n m : Nat} (h : n < m) : n * 1 < m := by omega
/-- short ones fit -/
theorem strip_short {l : List UInt8} (h : digs l) (h2 : (stripL l).length < 19) : valL 0 l ≤ 9223372036854775807 := by
  rw [← strip_val]
  have h3 := valL_lt (stripL l) 0 (strip_digs h)
  have h4 : 10 ^ (stripL l).length ≤ 10 ^ 18 := Nat.pow_le_pow_right (Nat.le_of_ble_eq_true rfl) (by omega)
  have h8 : 10 ^ 18 ≤ 9223372036854775807 := Nat.le_of_ble_eq_true rfl
  rw [Nat.zero_add, Nat.one_mul] at h3
  exact Nat.le_trans (Nat.le_of_lt h3) (Nat.le_trans h4 h8)
/-- where the longest piece ends that is a token -/
def eEnd (t : List UInt8) : Nat := if 0 < kindL (t.take (endL t)) then endL t else 0
def eF (t : List UInt8) : Nat → Nat
  | 0 => 0
  | j + 1 => if 0 < j ∧ 0 < kindL (t.take j) then j else eF t j
theorem eF_spec (t : List UInt8) : ∀ j, (eF t j = 0 ∨ (0 < kindL (t.take (eF t j)) ∧ 0 < eF t j)) ∧ (j = 0 ∨ eF t j < j) ∧ ∀ i, eF t j < i → i < j → ¬ (0 < kindL (t.take i))
  | 0 => ⟨.inl rfl, .inl rfl, fun i _ h => by omega⟩
  | j + 1 => by
    obtain ⟨h1, h2, h3⟩ := eF_spec t j
    unfold eF
    split
    · rename_i h
      exact ⟨.inr ⟨h.2, h.1⟩, .inr (by omega), fun i a b => by omega⟩
    · rename_i h
      refine ⟨h1, .inr (by rcases h2 with rfl | h2; · simp [eF]
                           · omega), fun i a b => ?_⟩
      by_cases e : i = j
      · subst e
        intro q
        exact h ⟨by omega, q⟩
      · exact h3 i a (by omega)
theorem eF_end {t : List UInt8} (ht : t ≠ []) {j : Nat} (hj : 1 ≤ j) (hjl : j ≤ t.length + 1) (hx : t.length < j ∨ (2 < j ∧ ¬ 0 < kindL (t.take j))) : eF t j = eEnd t := by
  obtain ⟨c, r, rfl⟩ := List.exists_cons_of_ne_nil ht
  have hE := endL_le (c :: r)
  have hE1 := endL_pos ht
  obtain ⟨h1, h2, h3⟩ := eF_spec (c :: r) j
  simp only [List.length_cons] at hE hjl hx
  have kt := fun i (a : 0 < i) (b : i ≤ r.length + 1) => kind_take (c := c) (r := r) (j := i) a b
  have kE := kt (endL (c :: r)) hE1 hE
  have h5 : cls c = 5 → endL (c :: r) ≤ 2 := by
    intro h; simp only [endL]; rw [if_pos h]; split <;> omega
  unfold eEnd
  by_cases hp : 0 < kindL ((c :: r).take (endL (c :: r)))
  · rw [if_pos hp]
    have hlt : endL (c :: r) < j := by
      rcases hx with hx | ⟨hx, hn⟩
      · omega
      · by_cases hjj : j ≤ r.length + 1
        · have := kt j (by omega) hjj
          rw [this] at hn
          rcases kE.1 hp with q | q | q | q
          · omega
          · omega
          · have := h5 q.1; omega
          · have := h5 q.1; omega
        · omega
    have hge : ¬ eF (c :: r) j < endL (c :: r) := fun q => h3 _ q hlt hp
    rcases h1 with h1 | ⟨h1, h10⟩
    · omega
    · have hlej : eF (c :: r) j < j := by omega
      rcases (kt _ h10 (by omega)).1 h1 with q | q | q | q
      · omega
      · omega
      · omega
      · omega
  · rw [if_neg hp]
    rcases h1 with h1 | ⟨h1, h10⟩
    · exact h1
    · exfalso
      have hlej : eF (c :: r) j < j := by omega
      rcases (kt _ h10 (by omega)).1 h1 with q | q | q | q
      · exact hp (kE.2 (.inl ⟨q.1, Nat.le_refl _⟩))
      · exact hp (kE.2 (.inr (.inl ⟨q.1, Nat.le_refl _⟩)))
      · rw [q.2.1] at h1; exact hp h1
      · refine hp (kE.2 (.inr (.inr (.inl ⟨q.1, rfl, ?_⟩))))
        rw [q.2.2]
        obtain ⟨m, hm⟩ : ∃ m, endL (c :: r) = m + 1 := ⟨endL (c :: r) - 1, by omega⟩
        rw [← q.2.2, hm, List.take_succ_cons, q.2.2]
        simp
/-- the document's answer -/
def refR (text : List UInt8) (at0 : Nat) : PV :=
  let a := at0 + pass false (text.drop at0)
  let line : Int := lineOf text a
  if a = text.length then wordR 5 [] 0 line a a else
  let s := (text.drop a).take (eEnd (text.drop a))
  let e : Nat := a + eEnd (text.drop a)
  if kindL s = 0 then faultR 100 line
  else if kindL s = 1 then match numL 0 s with
    | some n => wordR 1 [] n line a e
    | none => faultR 100 line
  else wordR (kindL s) s 0 line a e
theorem only_no_blank : ∀ (l : List UInt8), onlyL bothT l = true → 32 ∉ l
  | [], _ => by simp
  | c :: r, h => by
    simp only [onlyL, Bool.and_eq_true] at h
    have := only_no_blank r h.2
    have hc : c ≠ 32 := by
      intro e; rw [e] at h; exact absurd h.1 (by decide)
    simp [this, Ne.symm hc]
theorem refR_eq {text : List UInt8} {at0 : Nat} (h : at0 ≤ text.length) : refR text at0 = nextR text at0 := by
  rw [nextR_eq h]
  have hp := pass_le false (text.drop at0)
  have hl : (text.drop at0).length = text.length - at0 := List.length_drop
  unfold refR nextD
  simp only []
  by_cases he : at0 + pass false (text.drop at0) = text.length
  · have he' : pass false (text.drop at0) = (text.drop at0).length := by omega
    rw [if_pos he, if_pos he']
    simp [outR]
  · have he' : ¬ pass false (text.drop at0) = (text.drop at0).length := by omega
    rw [if_neg he, if_neg he']
    have e1 : (text.drop at0).drop (pass false (text.drop at0)) = text.drop (at0 + pass false (text.drop at0)) := by rw [List.drop_drop]
    rw [e1]
    have hne : text.drop (at0 + pass false (text.drop at0)) ≠ [] := by
      intro q
      have := congrArg List.length q
      simp only [List.length_drop, List.length_nil] at this
      omega
    generalize at0 + pass false (text.drop at0) = a at *
    generalize lineOf text a = line
    obtain ⟨c, r, hcr⟩ := List.exists_cons_of_ne_nil hne
    rw [hcr]
    have hE := endL_le (c :: r)
    have hE1 := endL_pos (l := c :: r) (by simp)
    have kE := kind_take (c := c) (r := r) hE1 (by simpa using hE)
    have o1 := only_digit (c :: r) _ hE
    have o2 := only_both (c :: r) _ hE
    obtain ⟨m, hm⟩ : ∃ m, endL (c :: r) = m + 1 := ⟨endL (c :: r) - 1, by omega⟩
    unfold tokD eEnd
    have g0 : (c :: r).getD 0 0 = c := rfl
    simp only [g0]
    by_cases h3 : cls c = 3
    · have hk : 0 < kindL ((c :: r).take (endL (c :: r))) := kE.2 (.inl ⟨h3, Nat.le_refl _⟩)
      have hr : endL (c :: r) = runL 3 (c :: r) := by simp [endL, runL, h3]
      have k1 : kindL ((c :: r).take (endL (c :: r))) = 1 := by
        have o1' : onlyL digitT ((c :: r).take (endL (c :: r))) = true := by rw [o1, hr]; simp
        rw [hm] at o1' ⊢
        rw [List.take_succ_cons] at o1' ⊢
        unfold kindL
        simp only [o1', if_true]
      rw [if_pos hk, k1]
      simp only [h3, if_true]
      cases numL 0 ((c :: r).take (endL (c :: r))) <;> simp [outR]
    · by_cases h4 : cls c = 4
      · have hk : 0 < kindL ((c :: r).take (endL (c :: r))) := kE.2 (.inr (.inl ⟨h4, Nat.le_refl _⟩))
        have hr : endL (c :: r) = runL 4 (c :: r) := by simp [endL, runL, h4]
        have hr3 : runL 3 (c :: r) = 0 := by simp [runL, h4]
        have o2' : onlyL bothT ((c :: r).take (endL (c :: r))) = true := by rw [o2, hr]; simp
        have o1' : onlyL digitT ((c :: r).take (endL (c :: r))) = false := by rw [o1, hr3]; simp; omega
        have hnb := only_no_blank _ o2'
        have k1 : kindL ((c :: r).take (endL (c :: r))) = if keyL ((c :: r).take (endL (c :: r))) then 3 else 2 := by
          rw [hm] at o1' o2' ⊢
          rw [List.take_succ_cons] at o1' o2' ⊢
          unfold kindL
          simp [o1', o2', among_letter, h4]
        rw [if_pos hk, key_eq _ hnb, k1]
        simp only [h3, h4, if_false, if_true]
        cases keyL ((c :: r).take (endL (c :: r))) <;> simp [outR]
      · by_cases h5 : cls c = 5 ∧ (c :: r).take (endL (c :: r)) ≠ [61]
        · have hk : 0 < kindL ((c :: r).take (endL (c :: r))) := kE.2 (.inr (.inr (.inl ⟨h5.1, rfl, h5.2⟩)))
          have hr3 : runL 3 (c :: r) = 0 := by simp [runL, h3]
          have o1' : onlyL digitT ((c :: r).take (endL (c :: r))) = false := by rw [o1, hr3]; simp; omega
          have k1 : kindL ((c :: r).take (endL (c :: r))) = 4 := by
            rw [hm] at o1' hk ⊢
            rw [List.take_succ_cons] at o1' hk ⊢
            revert hk
            unfold kindL
            simp only [o1', among_letter, h4, decide_false, Bool.false_and, Bool.false_eq_true, if_false]
            split <;> simp
          rw [if_pos hk, k1]
          simp only [h3, h4, if_false]
          rw [if_pos h5]
          simp [outR]
        · have hk : ¬ 0 < kindL ((c :: r).take (endL (c :: r))) := by
            intro q
            rcases kE.1 q with q | q | q | q
            · exact h3 q.1
            · exact h4 q.1
            · exact h5 ⟨q.1, q.2.2⟩
            · refine h5 ⟨q.1, ?_⟩
              rw [hm, List.take_succ_cons, q.2.2]; simp
          rw [if_neg hk]
          simp only [h3, h4, if_false, h5, List.take_zero, kindL, if_true]
          simp [outR]
end Go.Pe
