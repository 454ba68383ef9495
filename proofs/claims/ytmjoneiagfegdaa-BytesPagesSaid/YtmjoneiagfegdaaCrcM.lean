/-
  The plain mathematics of the sum: one step of the register, linear and one to one; four bytes at most that differ are seen. No condition; nothing of the program.
-/
import Derived.Test.YtmjoneiagfegdaaLib
namespace Go.Am

def mstep (r : Nat) : Nat := if r % 2 = 1 then (r / 2) ^^^ 3988292384 else r / 2
def halfTo (r : Nat) : Nat → Nat
  | 0 => r / 16
  | k + 1 => if r / 2 ^ k % 2 = 1 then halfTo r k ^^^ (3988292384 / 2 ^ (3 - k)) else halfTo r k
def m4 (r : Nat) : Nat := mstep (mstep (mstep (mstep r)))
def m8 (r : Nat) : Nat := m4 (m4 r)
def crcReg (r : Nat) (l : List UInt8) : Nat := l.foldl (fun r c => m8 (r ^^^ c.toNat)) r
def crc (l : List UInt8) : Nat := 4294967295 - crcReg 4294967295 l

theorem xor_div2 (a b : Nat) : (a ^^^ b) / 2 = a / 2 ^^^ b / 2 := by
  have := Nat.shiftRight_xor_distrib (a := a) (b := b) (i := 1)
  simpa [Nat.shiftRight_eq_div_pow] using this
theorem xor_mod2 (a b : Nat) : (a ^^^ b) % 2 = (a % 2 + b % 2) % 2 := by
  have h := Nat.testBit_xor a b 0
  simp only [Nat.testBit_zero] at h
  rcases Nat.mod_two_eq_zero_or_one a with ha | ha <;> rcases Nat.mod_two_eq_zero_or_one b with hb | hb <;> rcases Nat.mod_two_eq_zero_or_one (a ^^^ b) with hc | hc <;> simp [ha, hb, hc] at h ⊢
theorem xor_lt32 {a b : Nat} (ha : a < 4294967296) (hb : b < 4294967296) : a ^^^ b < 4294967296 := Nat.xor_lt_two_pow (n := 32) ha hb
theorem mstep_lt {r : Nat} (h : r < 4294967296) : mstep r < 4294967296 := by
  unfold mstep; split
  · exact xor_lt32 (by omega) (by decide)
  · omega
theorem mstep_xor (a b : Nat) : mstep (a ^^^ b) = mstep a ^^^ mstep b := by
  unfold mstep
  rw [xor_mod2, xor_div2]
  rcases Nat.mod_two_eq_zero_or_one a with ha | ha <;> rcases Nat.mod_two_eq_zero_or_one b with hb | hb <;> simp only [ha, hb] <;> simp
  · rw [Nat.xor_assoc]
  · rw [Nat.xor_assoc, Nat.xor_assoc, Nat.xor_comm (b / 2)]
  · rw [Nat.xor_assoc (a / 2), Nat.xor_comm 3988292384 (b / 2 ^^^ 3988292384), Nat.xor_assoc (b / 2), Nat.xor_self, Nat.xor_zero]
theorem mstep_zero : mstep 0 = 0 := by decide
theorem half_eq (r : Nat) : halfTo r 4 = m4 r := by
  unfold m4
  have e2 : r / 2 / 2 = r / 4 := by omega
  have e3 : r / 4 / 2 = r / 8 := by omega
  have e4 : r / 8 / 2 = r / 16 := by omega
  simp only [halfTo, Nat.pow_zero, Nat.div_one, Nat.reducePow, Nat.reduceDiv, Nat.reduceSub, Nat.pow_one]
  rcases Nat.mod_two_eq_zero_or_one r with h0 | h0 <;> rcases Nat.mod_two_eq_zero_or_one (r / 2) with h1 | h1 <;> rcases Nat.mod_two_eq_zero_or_one (r / 4) with h2 | h2 <;> rcases Nat.mod_two_eq_zero_or_one (r / 8) with h3 | h3 <;>
    simp [mstep, xor_div2, xor_mod2, e2, e3, e4, h0, h1, h2, h3, Nat.xor_assoc]

theorem xor_cancel {a b c : Nat} (h : a ^^^ c = b ^^^ c) : a = b := by
  have := congrArg (· ^^^ c) h
  simpa [Nat.xor_assoc] using this
theorem mstep_inj {a b : Nat} (ha : a < 4294967296) (hb : b < 4294967296) (h : mstep a = mstep b) : a = b := by
  have hp : ∀ r, r < 4294967296 → (mstep r).testBit 31 = decide (r % 2 = 1) := by
    intro r hr
    unfold mstep
    have hl : (r / 2).testBit 31 = false := Nat.testBit_lt_two_pow (by omega)
    split
    · rename_i h1
      rw [Nat.testBit_xor, hl, h1]; decide
    · rename_i h1
      rw [hl]; simp [h1]
  have h1 := hp a ha
  rw [h, hp b hb] at h1
  have h2 : (a % 2 = 1) ↔ (b % 2 = 1) := by simpa using h1.symm
  unfold mstep at h
  by_cases h3 : a % 2 = 1
  · rw [if_pos h3, if_pos (h2.1 h3)] at h
    have := xor_cancel h
    have := h2.1 h3
    omega
  · rw [if_neg h3, if_neg (fun x => h3 (h2.2 x))] at h
    have : ¬ b % 2 = 1 := fun x => h3 (h2.2 x)
    omega
theorem m8_lt {r : Nat} (h : r < 4294967296) : m8 r < 4294967296 := by
  unfold m8 m4; repeat' apply mstep_lt
  exact h
theorem m4_lt {r : Nat} (h : r < 4294967296) : m4 r < 4294967296 := by
  unfold m4; repeat' apply mstep_lt
  exact h
theorem m8_xor (a b : Nat) : m8 (a ^^^ b) = m8 a ^^^ m8 b := by unfold m8 m4; simp only [mstep_xor]
theorem m8_zero : m8 0 = 0 := by decide
theorem m8_inj {a b : Nat} (ha : a < 4294967296) (hb : b < 4294967296) (h : m8 a = m8 b) : a = b := by
  unfold m8 m4 at h
  exact mstep_inj ha hb (mstep_inj (mstep_lt ha) (mstep_lt hb) (mstep_inj (mstep_lt (mstep_lt ha)) (mstep_lt (mstep_lt hb)) (mstep_inj (mstep_lt (mstep_lt (mstep_lt ha))) (mstep_lt (mstep_lt (mstep_lt hb)))
    (mstep_inj (m4_lt ha) (m4_lt hb) (mstep_inj (mstep_lt (m4_lt ha)) (mstep_lt (m4_lt hb)) (mstep_inj (mstep_lt (mstep_lt (m4_lt ha))) (mstep_lt (mstep_lt (m4_lt hb))) (mstep_inj (mstep_lt (mstep_lt (mstep_lt (m4_lt ha)))) (mstep_lt (mstep_lt (mstep_lt (m4_lt hb)))) h)))))))
theorem byte_lt32 (c : UInt8) : c.toNat < 4294967296 := Nat.lt_trans c.toNat_lt (by decide)
theorem crcReg_lt (l : List UInt8) : ∀ {r : Nat}, r < 4294967296 → crcReg r l < 4294967296 := by
  induction l with
  | nil => intro r h; exact h
  | cons c l ih => intro r h; exact ih (m8_lt (xor_lt32 h (byte_lt32 c)))
theorem crcReg_append (r : Nat) (l m : List UInt8) : crcReg r (l ++ m) = crcReg (crcReg r l) m := by simp [crcReg, List.foldl_append]
theorem crcReg_inj (l : List UInt8) : ∀ {a b : Nat}, a < 4294967296 → b < 4294967296 → crcReg a l = crcReg b l → a = b := by
  induction l with
  | nil => intro a b _ _ h; exact h
  | cons c l ih =>
    intro a b ha hb h
    exact xor_cancel (m8_inj (xor_lt32 ha (byte_lt32 c)) (xor_lt32 hb (byte_lt32 c)) (ih (m8_lt (xor_lt32 ha (byte_lt32 c))) (m8_lt (xor_lt32 hb (byte_lt32 c))) h))
theorem crc_lt (l : List UInt8) : crc l < 4294967296 := by unfold crc; omega
theorem crc_eq {l m : List UInt8} (h : crc l = crc m) : crcReg 4294967295 l = crcReg 4294967295 m := by
  have h1 := crcReg_lt l (r := 4294967295) (by decide)
  have h2 := crcReg_lt m (r := 4294967295) (by decide)
  unfold crc at h; omega
end Go.Am
