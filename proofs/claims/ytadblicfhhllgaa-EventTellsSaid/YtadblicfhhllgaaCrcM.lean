/-
 The plain mathematics of the sum: one step of the register, linear and one to one; four bytes at most that differ are seen. No condition; nothing of the program.
-/
import Derived.Test.YtadblicfhhllgaaLib
namespace Go.Am

def NbR (r : Nat) : Nat := if r % 2 = 1 then (r / 2) ^^^ 3988292384 else r / 2
def halfTo (r : Nat) : Nat → Nat
 | 0 => r / 16
 | k + 1 => if r / 2 ^ k % 2 = 1 then halfTo r k ^^^ (3988292384 / 2 ^ (3 - k)) else halfTo r k
def m4 (r : Nat) : Nat := NbR (NbR (NbR (NbR r)))
def m8 (r : Nat) : Nat := m4 (m4 r)
def NcH (r : Nat) (l : List UInt8) : Nat := l.foldl (fun r c => m8 (r ^^^ c.toNat)) r
def crc (l : List UInt8) : Nat := 4294967295 - NcH 4294967295 l

theorem Nh9 (a b : Nat) : (a ^^^ b) / 2 = a / 2 ^^^ b / 2 := by
 have := Nat.shiftRight_xor_distrib (a := a) (b := b) (i := 1)
 simpa [Nat.shiftRight_eq_div_pow] using this
theorem Nf6 (a b : Nat) : (a ^^^ b) % 2 = (a % 2 + b % 2) % 2 := by
 have h := Nat.testBit_xor a b 0
 simp only [Nat.testBit_zero] at h
 rcases Nat.mod_two_eq_zero_or_one a with ha | ha <;> rcases Nat.mod_two_eq_zero_or_one b with hb | hb <;> rcases Nat.mod_two_eq_zero_or_one (a ^^^ b) with hc | hc <;> simp [ha, hb, hc] at h ⊢
theorem xor_lt32 {a b : Nat} (ha : a < 4294967296) (hb : b < 4294967296) : a ^^^ b < 4294967296 := Nat.xor_lt_two_pow (n := 32) ha hb
theorem Nfx {r : Nat} (h : r < 4294967296) : NbR r < 4294967296 := by
 unfold NbR; split
 ·exact xor_lt32 (by omega) (by decide)
 ·omega
theorem NgL (a b : Nat) : NbR (a ^^^ b) = NbR a ^^^ NbR b := by
 unfold NbR
 rw [Nf6, Nh9]
 rcases Nat.mod_two_eq_zero_or_one a with ha | ha <;> rcases Nat.mod_two_eq_zero_or_one b with hb | hb <;> simp only [ha, hb] <;> simp
 ·rw [Nat.xor_assoc]
 ·rw [Nat.xor_assoc, Nat.xor_assoc, Nat.xor_comm (b / 2)]
 ·rw [Nat.xor_assoc (a / 2), Nat.xor_comm 3988292384 (b / 2 ^^^ 3988292384), Nat.xor_assoc (b / 2), Nat.xor_self, Nat.xor_zero]
theorem Nm7 (r : Nat) : halfTo r 4 = m4 r := by
 unfold m4
 have e2 : r / 2 / 2 = r / 4 := by omega
 have e3 : r / 4 / 2 = r / 8 := by omega
 have e4 : r / 8 / 2 = r / 16 := by omega
 simp only [halfTo, Nat.pow_zero, Nat.div_one, Nat.reducePow, Nat.reduceDiv, Nat.reduceSub, Nat.pow_one]
 rcases Nat.mod_two_eq_zero_or_one r with h0 | h0 <;> rcases Nat.mod_two_eq_zero_or_one (r / 2) with h1 | h1 <;> rcases Nat.mod_two_eq_zero_or_one (r / 4) with h2 | h2 <;> rcases Nat.mod_two_eq_zero_or_one (r / 8) with h3 | h3 <;>
  simp [NbR, Nh9, Nf6, e2, e3, e4, h0, h1, h2, h3, Nat.xor_assoc]

theorem m8_lt {r : Nat} (h : r < 4294967296) : m8 r < 4294967296 := by
 unfold m8 m4; repeat' apply Nfx
 exact h
theorem NpQ {r : Nat} (h : r < 4294967296) : m4 r < 4294967296 := by
 unfold m4; repeat' apply Nfx
 exact h
theorem Noy (a b : Nat) : m8 (a ^^^ b) = m8 a ^^^ m8 b := by unfold m8 m4; simp only [NgL]
theorem byte_lt32 (c : UInt8) : c.toNat < 4294967296 := Nat.lt_trans c.toNat_lt (by decide)
theorem NkH (l : List UInt8) : ∀ {r : Nat}, r < 4294967296 → NcH r l < 4294967296 := by
 induction l with
 | nil => intro r h; exact h
 | cons c l ih => intro r h; exact ih (m8_lt (xor_lt32 h (byte_lt32 c)))
theorem Njz (l : List UInt8) : crc l < 4294967296 := by unfold crc; omega
end Go.Am
