/-
 The plain mathematics of layer 1: numbers laid out by sevens of bits, read back; signed numbers folded. No condition; nothing of the program.
-/
import Derived.Test.YtadblicfhhllgaaLib
namespace Go.Am

def varF : Nat → Nat → List UInt8
 | 0, n => [UInt8.ofNat n]
 | f + 1, n => if n < 128 then [UInt8.ofNat n] else UInt8.ofNat (n % 128 + 128) :: varF f (n / 128)
def Nai (n : Nat) : List UInt8 := varF 9 n
def Ne8 : Nat → Nat → List UInt8 → Nat × Int
 | _, _, [] => (0, 0)
 | i, n, c :: r =>
   if i = 9 ∧ 1 < c.toNat then (0, -1)
   else if 128 ≤ c.toNat then Ne8 (i + 1) ((n + c.toNat % 128 * 2 ^ (7 * i)) % 18446744073709551616) r
   else if c.toNat = 0 ∧ 0 < i then (0, -1)
   else ((n + c.toNat % 128 * 2 ^ (7 * i)) % 18446744073709551616, (i : Int) + 1)
def Nbb (l : List UInt8) : Nat × Int := Ne8 0 0 l

theorem NaL {n : Nat} (h : n < 256) : (UInt8.ofNat n).toNat = n := by
 rw [UInt8.toNat_ofNat']; exact Nat.mod_eq_of_lt (by simpa using h)
theorem NhF : ∀ f n, 1 ≤ (varF f n).length
 | 0, _ => by simp [varF]
 | f + 1, n => by unfold varF; split <;> simp
theorem NkA : ∀ f n, (varF f n).length ≤ f + 1
 | 0, _ => by simp [varF]
 | f + 1, n => by
   unfold varF; split
   ·simp
   ·simp; exact NkA f _
theorem NdI (n : Nat) : 1 ≤ (Nai n).length := NhF _ _
theorem NbS (n : Nat) : (Nai n).length ≤ 10 := NkA _ _

theorem NpG (i : Nat) : 2 ^ (7 * (i + 1)) = 128 * 2 ^ (7 * i) := by
 rw [Nat.mul_add, Nat.pow_add, Nat.mul_comm]
theorem NgJ : ∀ (f i n m : Nat) (rest : List UInt8), i + f = 9 → m * 2 ^ (7 * i) + n < 18446744073709551616 → (0 < i → 0 < m) →
 Ne8 i n (varF f m ++ rest) = (n + m * 2 ^ (7 * i), (i : Int) + (varF f m).length)
 | 0, i, n, m, rest, hi, hm, hp => by
   have h9 : i = 9 := by omega
   subst h9
   have e : (2 : Nat) ^ (7 * 9) = 9223372036854775808 := by decide
   rw [e] at hm
   have hm1 : m < 2 := by omega
   have hm0 := hp (by omega)
   obtain rfl : m = 1 := by omega
   have e1 : (UInt8.ofNat 1).toNat = 1 := by decide
   simp only [varF, List.cons_append, List.nil_append, Ne8, e1, e]
   simp
   omega
 | f + 1, i, n, m, rest, hi, hm, hp => by
   unfold varF
   by_cases h : m < 128
   ·rw [if_pos h]
    simp only [List.cons_append, List.nil_append, Ne8, NaL (show m < 256 by omega), List.length_singleton]
    rw [if_neg (by omega), if_neg (by omega), if_neg (by omega), Nat.mod_eq_of_lt h, Nat.mod_eq_of_lt (by omega)]
    rfl
   ·rw [if_neg h]
    have hb : m % 128 + 128 < 256 := by omega
    have e2 : (m % 128 + 128) % 128 = m % 128 := by omega
    simp only [List.cons_append, Ne8, NaL hb, e2, List.length_cons]
    have hsplit : m * 2 ^ (7 * i) = m / 128 * 2 ^ (7 * (i + 1)) + m % 128 * 2 ^ (7 * i) := by
     rw [NpG, ← Nat.mul_assoc, ← Nat.add_mul]; congr 1; omega
    rw [if_neg (by omega), if_pos (by omega), Nat.mod_eq_of_lt (by omega)]
    rw [NgJ f (i + 1) _ (m / 128) rest (by omega) (by omega) (fun _ => by omega)]
    congr 1
    ·omega
    ·push_cast; omega
theorem Nga {n : Nat} (h : n < 18446744073709551616) (rest : List UInt8) : Nbb (Nai n ++ rest) = (n, ((Nai n).length : Int)) := by
 have := NgJ 9 0 0 n rest (by omega) (by simpa using h) (fun h => absurd h (by omega))
 simpa [Nbb, Nai] using this

theorem Nie : ∀ (l : List UInt8) (i n : Nat) (v : Nat) (k : Int), i ≤ 9 → n < 2 ^ (7 * i) → Ne8 i n l = (v, k) → 0 < k →
 ∃ m rest, l = varF (9 - i) m ++ rest ∧ v = n + m * 2 ^ (7 * i) ∧ v < 18446744073709551616 ∧ k = (i : Int) + (varF (9 - i) m).length ∧ (0 < i → 0 < m)
 | [], i, n, v, k, hi, hn, h, hk => by simp [Ne8] at h; omega
 | c :: r, i, n, v, k, hi, hn, h, hk => by
   have hc := c.toNat_lt
   have hpow : 2 ^ (7 * i) ≤ 9223372036854775808 := by
    have : 2 ^ (7 * i) ≤ 2 ^ (7 * 9) := Nat.pow_le_pow_right (by decide) (by omega)
    have e : (2 : Nat) ^ (7 * 9) = 9223372036854775808 := by decide
    omega
   simp only [Ne8] at h
   by_cases h1 : i = 9 ∧ 1 < c.toNat
   ·rw [if_pos h1] at h; simp at h; omega
   rw [if_neg h1] at h
   have hmod : n + c.toNat % 128 * 2 ^ (7 * i) < 18446744073709551616 := by
    by_cases h9 : i = 9
    ·subst h9
     have : c.toNat % 128 ≤ 1 := by omega
     have : c.toNat % 128 * 2 ^ (7 * 9) ≤ 1 * 2 ^ (7 * 9) := Nat.mul_le_mul_right _ this
     omega
    ·have h8 : 2 ^ (7 * i) ≤ 2 ^ (7 * 8) := Nat.pow_le_pow_right (by decide) (by omega)
     have e : (2 : Nat) ^ (7 * 8) = 72057594037927936 := by decide
     have : c.toNat % 128 * 2 ^ (7 * i) ≤ 127 * 2 ^ (7 * i) := Nat.mul_le_mul_right _ (by omega)
     omega
   rw [Nat.mod_eq_of_lt hmod] at h
   by_cases h2 : 128 ≤ c.toNat
   ·rw [if_pos h2] at h
    have hi8 : i ≠ 9 := by omega
    have hn' : n + c.toNat % 128 * 2 ^ (7 * i) < 2 ^ (7 * (i + 1)) := by
     rw [NpG]
     have : c.toNat % 128 * 2 ^ (7 * i) ≤ 127 * 2 ^ (7 * i) := Nat.mul_le_mul_right _ (by omega)
     omega
    obtain ⟨m, rest, e1, e2, e3, e4, e5⟩ := Nie r (i + 1) _ v k (by omega) hn' h hk
    have hm := e5 (by omega)
    refine ⟨c.toNat % 128 + 128 * m, rest, ?_, ?_, e3, ?_, fun _ => by omega⟩
    ·rw [show 9 - i = (9 - (i + 1)) + 1 by omega]
     unfold varF
     rw [if_neg (by omega), show (c.toNat % 128 + 128 * m) % 128 + 128 = c.toNat by omega, show (c.toNat % 128 + 128 * m) / 128 = m by omega, UInt8.ofNat_toNat, e1]
     rfl
    ·rw [e2, NpG, Nat.add_mul]
     have : m * (128 * 2 ^ (7 * i)) = 128 * m * 2 ^ (7 * i) := by rw [← Nat.mul_assoc, Nat.mul_comm m]
     omega
    ·rw [e4, show 9 - i = (9 - (i + 1)) + 1 by omega]
     conv => rhs; unfold varF
     rw [if_neg (by omega), show (c.toNat % 128 + 128 * m) / 128 = m by omega]
     simp only [List.length_cons]
     push_cast; omega
   ·rw [if_neg h2] at h
    by_cases h3 : c.toNat = 0 ∧ 0 < i
    ·rw [if_pos h3] at h; simp at h; omega
    rw [if_neg h3] at h
    simp only [Prod.mk.injEq] at h
    refine ⟨c.toNat, r, ?_, ?_, by omega, ?_, fun hi0 => by omega⟩
    ·have : varF (9 - i) c.toNat = [c] := by
      cases hf : 9 - i with
      | zero => simp [varF, UInt8.ofNat_toNat]
      | succ f => simp [varF, show c.toNat < 128 by omega, UInt8.ofNat_toNat]
     rw [this]; rfl
    ·rw [← h.1, Nat.mod_eq_of_lt (show c.toNat < 128 by omega)]
    ·have : varF (9 - i) c.toNat = [c] := by
      cases hf : 9 - i with
      | zero => simp [varF, UInt8.ofNat_toNat]
      | succ f => simp [varF, show c.toNat < 128 by omega, UInt8.ofNat_toNat]
     rw [this, ← h.2]; rfl
theorem Ndl {l : List UInt8} {v : Nat} {k : Int} (h : Nbb l = (v, k)) (hk : 0 < k) : ∃ rest, l = Nai v ++ rest ∧ v < 18446744073709551616 ∧ k = (Nai v).length := by
 obtain ⟨m, rest, e1, e2, e3, e4, _⟩ := Nie l 0 0 v k (by omega) (by simp) h hk
 have : v = m := by simpa using e2
 subst this
 exact ⟨rest, e1, e3, by simpa [Nai] using e4⟩
theorem Ne6 : ∀ (l : List UInt8) (i n : Nat), i ≤ 9 → ((Ne8 i n l).2 = 0 ↔ (∀ c ∈ l, 128 ≤ c.toNat) ∧ i + l.length ≤ 9)
 | [], i, n, hi => by simp [Ne8, hi]
 | c :: r, i, n, hi => by
   simp only [Ne8]
   by_cases h1 : i = 9 ∧ 1 < c.toNat
   ·rw [if_pos h1]; simp; omega
   rw [if_neg h1]
   by_cases h2 : 128 ≤ c.toNat
   ·rw [if_pos h2, Ne6 r (i + 1) _ (by omega)]
    simp only [List.mem_cons, forall_eq_or_imp, List.length_cons, h2, true_and]
    constructor
    ·rintro ⟨a, b⟩; exact ⟨a, by omega⟩
    ·rintro ⟨a, b⟩; exact ⟨a, by omega⟩
   ·rw [if_neg h2]
    by_cases h3 : c.toNat = 0 ∧ 0 < i
    ·rw [if_pos h3]; simp; omega
    rw [if_neg h3]
    simp; omega
theorem NhC (l : List UInt8) : (Nbb l).2 = 0 ↔ (∀ c ∈ l, 128 ≤ c.toNat) ∧ l.length ≤ 9 := by
 have := Ne6 l 0 0 (by omega); simpa [Nbb] using this
theorem NhZ : ∀ (l : List UInt8) (i n : Nat), (Ne8 i n l).2 ≤ 0 → (Ne8 i n l).1 = 0
 | [], i, n, _ => rfl
 | c :: r, i, n, h => by
   simp only [Ne8] at h ⊢
   split
   ·rfl
   ·rename_i h1
    rw [if_neg h1] at h
    split
    ·rename_i h2
     rw [if_pos h2] at h
     exact NhZ r _ _ h
    ·rename_i h2
     rw [if_neg h2] at h
     split
     ·rfl
     ·rename_i h3
      rw [if_neg h3] at h
      simp at h; omega

def Nbn (xs : List UInt8) (at_ : Int) : Nat × Int × Int :=
 if at_ < 0 ∨ xs.length < at_ then (0, 0, 2)
 else if (Nbb (xs.drop at_.toNat)).2 = 0 then (0, 0, 11)
 else if (Nbb (xs.drop at_.toNat)).2 < 0 then (0, 0, 10)
 else ((Nbb (xs.drop at_.toNat)).1, at_ + (Nbb (xs.drop at_.toNat)).2, 0)
def foldN (n : Int) : Nat := if 0 ≤ n then (2 * n).toNat else (-2 * n - 1).toNat
def NcB (m : Nat) : Int := if m % 2 = 0 then ((m / 2 : Nat) : Int) else -((m / 2 : Nat) : Int) - 1
def Ncj (xs : List UInt8) (at_ : Int) : Int × Int × Int :=
 if (Nbn xs at_).2.2 = 0 then (NcB (Nbn xs at_).1, (Nbn xs at_).2.1, 0) else (0, 0, (Nbn xs at_).2.2)
theorem NlK {n : Int} (h : Nc3 n) : foldN n < 18446744073709551616 := by unfold foldN; unfold Nc3 at h; split <;> omega
theorem NgT (m : Nat) : foldN (NcB m) = m := by
 unfold NcB foldN
 split
 ·split <;> omega
 ·split <;> omega
theorem Niu {m : Nat} (h : m < 18446744073709551616) : Nc3 (NcB m) := by unfold NcB Nc3; split <;> omega
theorem NhV (xs : List UInt8) : (Nbb xs).2 ≤ xs.length := by
 rcases Int.lt_or_le 0 (Nbb xs).2 with h | h
 ·obtain ⟨rest, e, _, hk⟩ := Ndl (l := xs) (v := (Nbb xs).1) (k := (Nbb xs).2) rfl h
  rw [hk]; conv => rhs; rw [e]
  simp only [List.length_append]; omega
 ·omega
theorem Nih (xs : List UInt8) : (Nbb xs).1 < 18446744073709551616 := by
 rcases Int.lt_or_le 0 (Nbb xs).2 with h | h
 ·exact (Ndl (l := xs) rfl h).choose_spec.2.1
 ·have := NhZ xs 0 0 h
  unfold Nbb; rw [this]; omega
theorem Nc9 (xs : List UInt8) (a : Int) : (Nbn xs a).1 < 18446744073709551616 := by
 unfold Nbn
 split
 ·simp
 split
 ·simp
 split
 ·simp
 ·exact Nih _
theorem NdD {xs : List UInt8} {a : Int} (h : (Nbn xs a).2.2 = 0) : 0 ≤ a ∧ a ≤ xs.length ∧ ∃ rest, xs.drop a.toNat = Nai (Nbn xs a).1 ++ rest ∧ (Nbn xs a).2.1 = a + (Nai (Nbn xs a).1).length ∧ (Nbn xs a).2.1 ≤ xs.length := by
 unfold Nbn at h ⊢
 by_cases h1 : a < 0 ∨ xs.length < a
 ·rw [if_pos h1] at h; simp at h
 rw [if_neg h1] at h ⊢
 by_cases h2 : (Nbb (xs.drop a.toNat)).2 = 0
 ·rw [if_pos h2] at h; simp at h
 rw [if_neg h2] at h ⊢
 by_cases h3 : (Nbb (xs.drop a.toNat)).2 < 0
 ·rw [if_pos h3] at h; simp at h
 rw [if_neg h3]
 have hp : 0 < (Nbb (xs.drop a.toNat)).2 := by omega
 obtain ⟨rest, e, _, hk⟩ := Ndl (l := xs.drop a.toNat) (v := (Nbb (xs.drop a.toNat)).1) (k := (Nbb (xs.drop a.toNat)).2) rfl hp
 have hle := NhV (xs.drop a.toNat)
 simp at hle
 refine ⟨by omega, by omega, rest, e, by rw [← hk], ?_⟩
 show a + (Nbb (xs.drop a.toNat)).2 ≤ xs.length
 omega
end Go.Am
