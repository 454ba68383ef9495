/-
 The plain mathematics of the sum, more: four neighbours at most that are others are seen; noughts ahead change the register, noughts behind do where it is not 0. No condition; nothing of the program.
-/
import Derived.Test.YtadblicfhhllgaaCrcM
namespace Go.Am

theorem NdB (y : Nat) : NbR (2 * y) = y := by
 unfold NbR; rw [if_neg (by omega)]; omega
theorem Nla (d : Nat) : m8 (256 * d) = d := by
 have e : 256 * d = 2 * (2 * (2 * (2 * (2 * (2 * (2 * (2 * d))))))) := by omega
 rw [e]; unfold m8 m4; simp only [NdB]
theorem Nfd (c p : Nat) (hc : c < 256) : c + 256 * p = c ^^^ (256 * p) := by
 have h1 : c ^^^ (256 * p) = 256 * p ^^^ c := Nat.xor_comm _ _
 rw [h1, Nat.add_comm]
 have h2 := Nat.two_pow_add_eq_or_of_lt (i := 8) (b := c) (by omega) p
 rw [show (2 ^ 8 : Nat) = 256 by decide] at h2
 rw [h2]
 apply Nat.eq_of_testBit_eq
 intro i
 rw [Nat.testBit_or, Nat.testBit_xor]
 by_cases hi : i < 8
 ·have : (256 * p).testBit i = false := by
   rw [show 256 * p = 2 ^ 8 * p by omega, Nat.testBit_two_pow_mul]; simp; omega
  rw [this]; simp
 ·have : c.testBit i = false := Nat.testBit_lt_two_pow (Nat.lt_of_lt_of_le hc (by rw [show 256 = 2 ^ 8 by decide]; exact Nat.pow_le_pow_right (by decide) (by omega)))
  rw [this]; simp
def Nfe : List UInt8 → Nat
 | [] => 0
 | c :: l => c.toNat + 256 * Nfe l
def m8n : Nat → Nat → Nat
 | 0, r => r
 | k + 1, r => m8n k (m8 r)
theorem NeM : ∀ (l : List UInt8) (a : Nat), NcH a l = m8n l.length (a ^^^ Nfe l)
 | [], a => by simp [NcH, Nfe, m8n]
 | c :: l, a => by
   have h := NeM l (m8 (a ^^^ c.toNat))
   show NcH (m8 (a ^^^ c.toNat)) l = m8n l.length (m8 (a ^^^ Nfe (c :: l)))
   rw [h]
   congr 1
   show m8 (a ^^^ c.toNat) ^^^ Nfe l = m8 (a ^^^ (c.toNat + 256 * Nfe l))
   rw [Nfd _ _ c.toNat_lt, ← Nat.xor_assoc, Noy (a ^^^ c.toNat), Nla]
theorem Njq : ∀ (l : List UInt8), Nfe l < 256 ^ l.length
 | [] => by simp [Nfe]
 | c :: l => by
   have h := Njq l
   have h2 := c.toNat_lt
   show c.toNat + 256 * Nfe l < 256 ^ (l.length + 1)
   rw [Nat.pow_succ]; omega
def msn : Nat → Nat → Nat
 | 0, r => r
 | k + 1, r => msn k (NbR r)
theorem Nib : ∀ k r, msn k (NbR r) = NbR (msn k r)
 | 0, _ => rfl
 | k + 1, r => Nib k (NbR r)
theorem NkG : ∀ k a b, msn k (a ^^^ b) = msn k a ^^^ msn k b
 | 0, _, _ => rfl
 | k + 1, a, b => by show msn k (NbR (a ^^^ b)) = _; rw [NgL, NkG k]; rfl
theorem Nm3 (j k r : Nat) : msn (j + k) r = msn k (msn j r) := by
 induction j generalizing r with
 | zero => simp [msn]
 | succ j ih => rw [show j + 1 + k = (j + k) + 1 by omega]; exact ih (NbR r)
theorem NjZ : ∀ k r, m8n k r = msn (8 * k) r
 | 0, _ => rfl
 | k + 1, r => by
   show m8n k (m8 r) = _
   rw [NjZ k, show 8 * (k + 1) = 8 + 8 * k by omega, Nm3]; rfl
end Go.Am
