/-
  The plain mathematics of layer 1: numbers laid out by sevens of bits, read back; signed numbers folded. No condition; nothing of the program.
-/
import Derived.Test.YtmjoneiagfegdaaLib
namespace Go.Am

def varF : Nat → Nat → List UInt8
  | 0, n => [UInt8.ofNat n]
  | f + 1, n => if n < 128 then [UInt8.ofNat n] else UInt8.ofNat (n % 128 + 128) :: varF f (n / 128)
def varint (n : Nat) : List UInt8 := varF 9 n
def numF : Nat → Nat → List UInt8 → Nat × Int
  | _, _, [] => (0, 0)
  | i, n, c :: r =>
    if i = 9 ∧ 1 < c.toNat then (0, -1)
    else if 128 ≤ c.toNat then numF (i + 1) ((n + c.toNat % 128 * 2 ^ (7 * i)) % 18446744073709551616) r
    else if c.toNat = 0 ∧ 0 < i then (0, -1)
    else ((n + c.toNat % 128 * 2 ^ (7 * i)) % 18446744073709551616, (i : Int) + 1)
def parse (l : List UInt8) : Nat × Int := numF 0 0 l

theorem ofNat_small {n : Nat} (h : n < 256) : (UInt8.ofNat n).toNat = n := by
  rw [UInt8.toNat_ofNat']; exact Nat.mod_eq_of_lt (by simpa using h)
theorem varF_pos : ∀ f n, 1 ≤ (varF f n).length
  | 0, _ => by simp [varF]
  | f + 1, n => by unfold varF; split <;> simp
theorem varF_le : ∀ f n, (varF f n).length ≤ f + 1
  | 0, _ => by simp [varF]
  | f + 1, n => by
    unfold varF; split
    · simp
    · simp; exact varF_le f _
theorem varint_pos (n : Nat) : 1 ≤ (varint n).length := varF_pos _ _
theorem varint_le (n : Nat) : (varint n).length ≤ 10 := varF_le _ _

theorem pow7 (i : Nat) : 2 ^ (7 * (i + 1)) = 128 * 2 ^ (7 * i) := by
  rw [Nat.mul_add, Nat.pow_add, Nat.mul_comm]
theorem numF_varF : ∀ (f i n m : Nat) (rest : List UInt8), i + f = 9 → m * 2 ^ (7 * i) + n < 18446744073709551616 → (0 < i → 0 < m) →
    numF i n (varF f m ++ rest) = (n + m * 2 ^ (7 * i), (i : Int) + (varF f m).length)
  | 0, i, n, m, rest, hi, hm, hp => by
    have h9 : i = 9 := by omega
    subst h9
    have e : (2 : Nat) ^ (7 * 9) = 9223372036854775808 := by decide
    rw [e] at hm
    have hm1 : m < 2 := by omega
    have hm0 := hp (by omega)
    obtain rfl : m = 1 := by omega
    have e1 : (UInt8.ofNat 1).toNat = 1 := by decide
    simp only [varF, List.cons_append, List.nil_append, numF, e1, e]
    simp
    omega
  | f + 1, i, n, m, rest, hi, hm, hp => by
    unfold varF
    by_cases h : m < 128
    · rw [if_pos h]
      simp only [List.cons_append, List.nil_append, numF, ofNat_small (show m < 256 by omega), List.length_singleton]
      rw [if_neg (by omega), if_neg (by omega), if_neg (by omega), Nat.mod_eq_of_lt h, Nat.mod_eq_of_lt (by omega)]
      rfl
    · rw [if_neg h]
      have hb : m % 128 + 128 < 256 := by omega
      have e2 : (m % 128 + 128) % 128 = m % 128 := by omega
      simp only [List.cons_append, numF, ofNat_small hb, e2, List.length_cons]
      have hsplit : m * 2 ^ (7 * i) = m / 128 * 2 ^ (7 * (i + 1)) + m % 128 * 2 ^ (7 * i) := by
        rw [pow7, ← Nat.mul_assoc, ← Nat.add_mul]; congr 1; omega
      rw [if_neg (by omega), if_pos (by omega), Nat.mod_eq_of_lt (by omega)]
      rw [numF_varF f (i + 1) _ (m / 128) rest (by omega) (by omega) (fun _ => by omega)]
      congr 1
      · omega
      · push_cast; omega
theorem parse_varint {n : Nat} (h : n < 18446744073709551616) (rest : List UInt8) : parse (varint n ++ rest) = (n, ((varint n).length : Int)) := by
  have := numF_varF 9 0 0 n rest (by omega) (by simpa using h) (fun h => absurd h (by omega))
  simpa [parse, varint] using this

theorem numF_inv : ∀ (l : List UInt8) (i n : Nat) (v : Nat) (k : Int), i ≤ 9 → n < 2 ^ (7 * i) → numF i n l = (v, k) → 0 < k →
    ∃ m rest, l = varF (9 - i) m ++ rest ∧ v = n + m * 2 ^ (7 * i) ∧ v < 18446744073709551616 ∧ k = (i : Int) + (varF (9 - i) m).length ∧ (0 < i → 0 < m)
  | [], i, n, v, k, hi, hn, h, hk => by simp [numF] at h; omega
  | c :: r, i, n, v, k, hi, hn, h, hk => by
    have hc := c.toNat_lt
    have hpow : 2 ^ (7 * i) ≤ 9223372036854775808 := by
      have : 2 ^ (7 * i) ≤ 2 ^ (7 * 9) := Nat.pow_le_pow_right (by decide) (by omega)
      have e : (2 : Nat) ^ (7 * 9) = 9223372036854775808 := by decide
      omega
    simp only [numF] at h
    by_cases h1 : i = 9 ∧ 1 < c.toNat
    · rw [if_pos h1] at h; simp at h; omega
    rw [if_neg h1] at h
    have hmod : n + c.toNat % 128 * 2 ^ (7 * i) < 18446744073709551616 := by
      by_cases h9 : i = 9
      · subst h9
        have : c.toNat % 128 ≤ 1 := by omega
        have : c.toNat % 128 * 2 ^ (7 * 9) ≤ 1 * 2 ^ (7 * 9) := Nat.mul_le_mul_right _ this
        omega
      · have h8 : 2 ^ (7 * i) ≤ 2 ^ (7 * 8) := Nat.pow_le_pow_right (by decide) (by omega)
        have e : (2 : Nat) ^ (7 * 8) = 72057594037927936 := by decide
        have : c.toNat % 128 * 2 ^ (7 * i) ≤ 127 * 2 ^ (7 * i) := Nat.mul_le_mul_right _ (by omega)
        omega
    rw [Nat.mod_eq_of_lt hmod] at h
    by_cases h2 : 128 ≤ c.toNat
    · rw [if_pos h2] at h
      have hi8 : i ≠ 9 := by omega
      have hn' : n + c.toNat % 128 * 2 ^ (7 * i) < 2 ^ (7 * (i + 1)) := by
        rw [pow7]
        have : c.toNat % 128 * 2 ^ (7 * i) ≤ 127 * 2 ^ (7 * i) := Nat.mul_le_mul_right _ (by omega)
        omega
      obtain ⟨m, rest, e1, e2, e3, e4, e5⟩ := numF_inv r (i + 1) _ v k (by omega) hn' h hk
      have hm := e5 (by omega)
      refine ⟨c.toNat % 128 + 128 * m, rest, ?_, ?_, e3, ?_, fun _ => by omega⟩
      · rw [show 9 - i = (9 - (i + 1)) + 1 by omega]
        unfold varF
        rw [if_neg (by omega), show (c.toNat % 128 + 128 * m) % 128 + 128 = c.toNat by omega, show (c.toNat % 128 + 128 * m) / 128 = m by omega, UInt8.ofNat_toNat, e1]
        rfl
      · rw [e2, pow7, Nat.add_mul]
        have : m * (128 * 2 ^ (7 * i)) = 128 * m * 2 ^ (7 * i) := by rw [← Nat.mul_assoc, Nat.mul_comm m]
        omega
      · rw [e4, show 9 - i = (9 - (i + 1)) + 1 by omega]
        conv => rhs; unfold varF
        rw [if_neg (by omega), show (c.toNat % 128 + 128 * m) / 128 = m by omega]
        simp only [List.length_cons]
        push_cast; omega
    · rw [if_neg h2] at h
      by_cases h3 : c.toNat = 0 ∧ 0 < i
      · rw [if_pos h3] at h; simp at h; omega
      rw [if_neg h3] at h
      simp only [Prod.mk.injEq] at h
      refine ⟨c.toNat, r, ?_, ?_, by omega, ?_, fun hi0 => by omega⟩
      · have : varF (9 - i) c.toNat = [c] := by
          cases hf : 9 - i with
          | zero => simp [varF, UInt8.ofNat_toNat]
          | succ f => simp [varF, show c.toNat < 128 by omega, UInt8.ofNat_toNat]
        rw [this]; rfl
      · rw [← h.1, Nat.mod_eq_of_lt (show c.toNat < 128 by omega)]
      · have : varF (9 - i) c.toNat = [c] := by
          cases hf : 9 - i with
          | zero => simp [varF, UInt8.ofNat_toNat]
          | succ f => simp [varF, show c.toNat < 128 by omega, UInt8.ofNat_toNat]
        rw [this, ← h.2]; rfl
theorem parse_inv {l : List UInt8} {v : Nat} {k : Int} (h : parse l = (v, k)) (hk : 0 < k) : ∃ rest, l = varint v ++ rest ∧ v < 18446744073709551616 ∧ k = (varint v).length := by
  obtain ⟨m, rest, e1, e2, e3, e4, _⟩ := numF_inv l 0 0 v k (by omega) (by simp) h hk
  have : v = m := by simpa using e2
  subst this
  exact ⟨rest, e1, e3, by simpa [varint] using e4⟩
theorem numF_short : ∀ (l : List UInt8) (i n : Nat), i ≤ 9 → ((numF i n l).2 = 0 ↔ (∀ c ∈ l, 128 ≤ c.toNat) ∧ i + l.length ≤ 9)
  | [], i, n, hi => by simp [numF, hi]
  | c :: r, i, n, hi => by
    simp only [numF]
    by_cases h1 : i = 9 ∧ 1 < c.toNat
    · rw [if_pos h1]; simp; omega
    rw [if_neg h1]
    by_cases h2 : 128 ≤ c.toNat
    · rw [if_pos h2, numF_short r (i + 1) _ (by omega)]
      simp only [List.mem_cons, forall_eq_or_imp, List.length_cons, h2, true_and]
      constructor
      · rintro ⟨a, b⟩; exact ⟨a, by omega⟩
      · rintro ⟨a, b⟩; exact ⟨a, by omega⟩
    · rw [if_neg h2]
      by_cases h3 : c.toNat = 0 ∧ 0 < i
      · rw [if_pos h3]; simp; omega
      rw [if_neg h3]
      simp; omega
theorem parse_short (l : List UInt8) : (parse l).2 = 0 ↔ (∀ c ∈ l, 128 ≤ c.toNat) ∧ l.length ≤ 9 := by
  have := numF_short l 0 0 (by omega); simpa [parse] using this
theorem numF_val : ∀ (l : List UInt8) (i n : Nat), (numF i n l).2 ≤ 0 → (numF i n l).1 = 0
  | [], i, n, _ => rfl
  | c :: r, i, n, h => by
    simp only [numF] at h ⊢
    split
    · rfl
    · rename_i h1
      rw [if_neg h1] at h
      split
      · rename_i h2
        rw [if_pos h2] at h
        exact numF_val r _ _ h
      · rename_i h2
        rw [if_neg h2] at h
        split
        · rfl
        · rename_i h3
          rw [if_neg h3] at h
          simp at h; omega

theorem varF_drop : ∀ (f n k : Nat), k < (varF f n).length → (varF f n).drop k = varF (f - k) (n / 128 ^ k)
  | _, n, 0, _ => by simp
  | 0, n, k + 1, h => by simp [varF] at h
  | f + 1, n, k + 1, h => by
    unfold varF at h ⊢
    split
    · rename_i h1; rw [if_pos h1] at h; simp at h
    · rename_i h1
      rw [if_neg h1] at h
      have e : varF (f + 1 - (k + 1)) (n / 128 ^ (k + 1)) = varF (f - k) (n / 128 / 128 ^ k) := by
        rw [Nat.pow_succ, Nat.mul_comm, Nat.div_div_eq_div_mul, show f + 1 - (k + 1) = f - k by omega]
      rw [List.drop_succ_cons, varF_drop f (n / 128) k (by simpa using h), ← e]
      cases hfk : f + 1 - (k + 1) <;> rfl
theorem varF_more : ∀ (f g n : Nat), n < 128 ^ (f + 1) → f ≤ g → (0 < f ∨ n < 128) → varF g n = varF f n
  | f, 0, n, _, hfg, _ => by have : f = 0 := by omega
                             subst this; rfl
  | 0, g + 1, n, h, _, hn => by
    have : n < 128 := by simpa using h
    simp [varF, this]
  | f + 1, g + 1, n, h, hfg, _ => by
    unfold varF
    split
    · rfl
    · rename_i h1
      congr 1
      refine varF_more f g (n / 128) ?_ (by omega) ?_
      · rw [Nat.pow_succ] at h; exact Nat.div_lt_of_lt_mul (by rw [Nat.mul_comm]; exact h)
      · by_cases hf : 0 < f
        · exact .inl hf
        · right
          have : f = 0 := by omega
          subst this
          simp at h; omega

def getU (xs : List UInt8) (at_ : Int) : Nat × Int × Int :=
  if at_ < 0 ∨ xs.length < at_ then (0, 0, 2)
  else if (parse (xs.drop at_.toNat)).2 = 0 then (0, 0, 11)
  else if (parse (xs.drop at_.toNat)).2 < 0 then (0, 0, 10)
  else ((parse (xs.drop at_.toNat)).1, at_ + (parse (xs.drop at_.toNat)).2, 0)
def foldN (n : Int) : Nat := if 0 ≤ n then (2 * n).toNat else (-2 * n - 1).toNat
def openI (m : Nat) : Int := if m % 2 = 0 then ((m / 2 : Nat) : Int) else -((m / 2 : Nat) : Int) - 1
def getI (xs : List UInt8) (at_ : Int) : Int × Int × Int :=
  if (getU xs at_).2.2 = 0 then (openI (getU xs at_).1, (getU xs at_).2.1, 0) else (0, 0, (getU xs at_).2.2)
theorem foldN_lt {n : Int} (h : in64 n) : foldN n < 18446744073709551616 := by unfold foldN; unfold in64 at h; split <;> omega
theorem openI_foldN (n : Int) : openI (foldN n) = n := by
  unfold openI foldN
  split
  · split <;> omega
  · split <;> omega
theorem foldN_openI (m : Nat) : foldN (openI m) = m := by
  unfold openI foldN
  split
  · split <;> omega
  · split <;> omega
theorem in64_openI {m : Nat} (h : m < 18446744073709551616) : in64 (openI m) := by unfold openI in64; split <;> omega
theorem parse_le (xs : List UInt8) : (parse xs).2 ≤ xs.length := by
  rcases Int.lt_or_le 0 (parse xs).2 with h | h
  · obtain ⟨rest, e, _, hk⟩ := parse_inv (l := xs) (v := (parse xs).1) (k := (parse xs).2) rfl h
    rw [hk]; conv => rhs; rw [e]
    simp only [List.length_append]; omega
  · omega
theorem parse_lt (xs : List UInt8) : (parse xs).1 < 18446744073709551616 := by
  rcases Int.lt_or_le 0 (parse xs).2 with h | h
  · exact (parse_inv (l := xs) rfl h).choose_spec.2.1
  · have := numF_val xs 0 0 h
    unfold parse; rw [this]; omega
theorem getU_lt (xs : List UInt8) (a : Int) : (getU xs a).1 < 18446744073709551616 := by
  unfold getU
  split
  · simp
  split
  · simp
  split
  · simp
  · exact parse_lt _
theorem getU_ok {xs : List UInt8} {a : Int} (h : (getU xs a).2.2 = 0) : 0 ≤ a ∧ a ≤ xs.length ∧ ∃ rest, xs.drop a.toNat = varint (getU xs a).1 ++ rest ∧ (getU xs a).2.1 = a + (varint (getU xs a).1).length ∧ (getU xs a).2.1 ≤ xs.length := by
  unfold getU at h ⊢
  by_cases h1 : a < 0 ∨ xs.length < a
  · rw [if_pos h1] at h; simp at h
  rw [if_neg h1] at h ⊢
  by_cases h2 : (parse (xs.drop a.toNat)).2 = 0
  · rw [if_pos h2] at h; simp at h
  rw [if_neg h2] at h ⊢
  by_cases h3 : (parse (xs.drop a.toNat)).2 < 0
  · rw [if_pos h3] at h; simp at h
  rw [if_neg h3]
  have hp : 0 < (parse (xs.drop a.toNat)).2 := by omega
  obtain ⟨rest, e, _, hk⟩ := parse_inv (l := xs.drop a.toNat) (v := (parse (xs.drop a.toNat)).1) (k := (parse (xs.drop a.toNat)).2) rfl hp
  have hle := parse_le (xs.drop a.toNat)
  simp at hle
  refine ⟨by omega, by omega, rest, e, by rw [← hk], ?_⟩
  show a + (parse (xs.drop a.toNat)).2 ≤ xs.length
  omega
theorem getU_varint {xs rest : List UInt8} {a n : Nat} (h : xs.drop a = varint n ++ rest) (ha : a ≤ xs.length) (hn : n < 18446744073709551616) : getU xs a = (n, (a : Int) + (varint n).length, 0) := by
  have hp := parse_varint hn rest
  have h1 := varint_pos n
  unfold getU
  rw [if_neg (by omega), Int.toNat_natCast, h, hp, if_neg (show ¬ ((varint n).length : Int) = 0 by omega), if_neg (show ¬ ((varint n).length : Int) < 0 by omega)]
theorem getU_zero {xs : List UInt8} {a : Int} (h : (getU xs a).2.2 ≠ 0) : getU xs a = (0, 0, (getU xs a).2.2) := by
  unfold getU at h ⊢
  by_cases h1 : a < 0 ∨ xs.length < a
  · rw [if_pos h1]
  rw [if_neg h1] at h ⊢
  by_cases h2 : (parse (xs.drop a.toNat)).2 = 0
  · rw [if_pos h2]
  rw [if_neg h2] at h ⊢
  by_cases h3 : (parse (xs.drop a.toNat)).2 < 0
  · rw [if_pos h3]
  · rw [if_neg h3] at h; simp at h
end Go.Am
