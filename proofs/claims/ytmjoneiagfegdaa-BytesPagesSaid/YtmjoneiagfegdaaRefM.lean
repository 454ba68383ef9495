/-
  The plain mathematics of the document's answer for layer 1: what sevens of bits weigh, the search for a number, the sum by the bits' weights. No condition; nothing of the program.
-/
import Derived.Test.YtmjoneiagfegdaaBytesM
import Derived.Test.YtmjoneiagfegdaaCrcN
set_option linter.unusedVariables false
namespace Go.Am

def weighsN : List UInt8 → Nat
  | [] => 0
  | c :: r => (c.toNat % 128 + 128 * weighsN r) % 18446744073709551616
theorem weighsN_lt (l : List UInt8) : weighsN l < 18446744073709551616 := by
  cases l with
  | nil => decide
  | cons c r => exact Nat.mod_lt _ (by decide)
theorem weighs_varF : ∀ (f n : Nat), n < 128 ^ (f + 1) → n < 18446744073709551616 → weighsN (varF f n) = n
  | 0, n, h, _ => by
    have h' : n < 128 := by simpa using h
    simp only [varF, weighsN, ofNat_small (show n < 256 by omega)]; omega
  | f + 1, n, h, h2 => by
    unfold varF
    split
    · rename_i h1
      simp only [weighsN, ofNat_small (show n < 256 by omega)]; omega
    · rename_i h1
      have hd : n / 128 < 128 ^ (f + 1) := by
        rw [Nat.pow_succ] at h; exact Nat.div_lt_of_lt_mul (by rw [Nat.mul_comm]; exact h)
      have := weighs_varF f (n / 128) hd (by omega)
      simp only [weighsN, ofNat_small (show n % 128 + 128 < 256 by omega), this]; omega
theorem pow128_10 : (128 : Nat) ^ 10 = 1180591620717411303424 := by decide
theorem weighs_varint {n : Nat} (h : n < 18446744073709551616) : weighsN (varint n) = n := weighs_varF 9 n (by rw [pow128_10]; omega) h
theorem varF_init : ∀ (f n : Nat) (l : List UInt8) (c : UInt8), n < 128 ^ (f + 1) → varF f n = l ++ [c] → (∀ x ∈ l, 128 ≤ x.toNat) ∧ c.toNat < 128
  | 0, n, l, c, h, e => by
    have h' : n < 128 := by simpa using h
    simp only [varF] at e
    cases l with
    | nil => simp at e; subst e; rw [ofNat_small (by omega)]; simp; exact h'
    | cons a l => simp at e
  | f + 1, n, l, c, h, e => by
    unfold varF at e
    split at e
    · rename_i h1
      cases l with
      | nil => simp at e; subst e; rw [ofNat_small (by omega)]; simp; exact h1
      | cons a l => simp at e
    · rename_i h1
      cases l with
      | nil =>
        have := varF_pos f (n / 128)
        have h2 := congrArg List.length e
        simp at h2; simp [h2] at this
      | cons a l =>
        simp only [List.cons_append, List.cons.injEq] at e
        have hd : n / 128 < 128 ^ (f + 1) := by
          rw [Nat.pow_succ] at h; exact Nat.div_lt_of_lt_mul (by rw [Nat.mul_comm]; exact h)
        obtain ⟨h3, h4⟩ := varF_init f (n / 128) l c hd e.2
        refine ⟨?_, h4⟩
        intro x hx
        rcases List.mem_cons.1 hx with rfl | hx
        · rw [← e.1, ofNat_small (by omega)]; omega
        · exact h3 x hx
theorem varint_init {n : Nat} {l : List UInt8} {c : UInt8} (h : n < 18446744073709551616) (e : varint n = l ++ [c]) : (∀ x ∈ l, 128 ≤ x.toNat) ∧ c.toNat < 128 := varF_init 9 n l c (by rw [pow128_10]; omega) e
def isNum (l : List UInt8) : Bool := varint (weighsN l) == l
theorem isNum_eq {l : List UInt8} (h : isNum l = true) : varint (weighsN l) = l := by simpa [isNum] using h
theorem isNum_parse {r : List UInt8} {k : Nat} (hk : k ≤ r.length) (h : isNum (r.take k) = true) : parse r = (weighsN (r.take k), (k : Int)) := by
  have e := isNum_eq h
  have h1 : r = varint (weighsN (r.take k)) ++ r.drop k := by rw [e, List.take_append_drop]
  have h2 := parse_varint (weighsN_lt (r.take k)) (r.drop k)
  rw [← h1] at h2
  rw [h2, e]; simp; omega
theorem parse_isNum {r : List UInt8} {v : Nat} {j : Int} (h : parse r = (v, j)) (hj : 0 < j) : ∃ k : Nat, j = (k : Int) ∧ 1 ≤ k ∧ k ≤ 10 ∧ k ≤ r.length ∧ isNum (r.take k) = true ∧ weighsN (r.take k) = v := by
  obtain ⟨rest, e, hv, hk⟩ := parse_inv h hj
  have h1 : r.take (varint v).length = varint v := by rw [e]; simp
  refine ⟨(varint v).length, hk, varint_pos v, varint_le v, ?_, ?_, ?_⟩
  · rw [e]; simp
  · rw [h1, isNum, weighs_varint hv]; simp
  · rw [h1, weighs_varint hv]
theorem not_isNum {r : List UInt8} (h : (parse r).2 ≤ 0) {k : Nat} (h1 : 1 ≤ k) (hk : k ≤ r.length) : isNum (r.take k) = false := by
  by_cases hb : isNum (r.take k) = true
  · have := isNum_parse hk hb
    rw [this] at h; simp at h; omega
  · simpa using hb
theorem weighs_begin : ∀ (l : List UInt8), l.length ≤ 9 → (∀ c ∈ l, 128 ≤ c.toNat) → weighsN (l ++ [1]) < 2 * 128 ^ l.length ∧ 0 < weighsN (l ++ [1]) ∧ ∀ f, l.length ≤ f → varF f (weighsN (l ++ [1])) = l ++ [1]
  | [], _, _ => by
    refine ⟨by decide, by decide, ?_⟩
    intro f _
    cases f with
    | zero => decide
    | succ f => simp [weighsN, varF]
  | c :: l, hl, hc => by
    have hl' : l.length ≤ 8 := by simpa using hl
    obtain ⟨h1, h2, h3⟩ := weighs_begin l (by omega) (fun x hx => hc x (List.mem_cons_of_mem _ hx))
    have hcc := hc c List.mem_cons_self
    have hc2 := c.toNat_lt
    have hp : (128 : Nat) ^ l.length ≤ 128 ^ 8 := Nat.pow_le_pow_right (by decide) hl'
    have e8 : (128 : Nat) ^ 8 = 72057594037927936 := by decide
    have e : weighsN (c :: l ++ [1]) = c.toNat % 128 + 128 * weighsN (l ++ [1]) := by
      show (c.toNat % 128 + 128 * weighsN (l ++ [1])) % 18446744073709551616 = _
      exact Nat.mod_eq_of_lt (by omega)
    rw [e]
    refine ⟨by rw [List.length_cons, Nat.pow_succ]; omega, by omega, ?_⟩
    intro f hf
    cases f with
    | zero => simp at hf
    | succ f =>
      unfold varF
      rw [if_neg (by omega), show (c.toNat % 128 + 128 * weighsN (l ++ [1])) % 128 + 128 = c.toNat by omega, show (c.toNat % 128 + 128 * weighsN (l ++ [1])) / 128 = weighsN (l ++ [1]) by omega, UInt8.ofNat_toNat, h3 f (by simpa using hf)]
      rfl
theorem isNum_begin {r : List UInt8} (h : (parse r).2 ≤ 0) : (decide (r.length + 1 ≤ 10) && isNum (r ++ [1])) = decide ((parse r).2 = 0) := by
  rw [Bool.eq_iff_iff]
  simp only [Bool.and_eq_true, decide_eq_true_eq, parse_short]
  constructor
  · rintro ⟨h1, h2⟩
    exact ⟨(varint_init (weighsN_lt _) (isNum_eq h2)).1, by omega⟩
  · rintro ⟨h1, h2⟩
    refine ⟨by omega, ?_⟩
    have := (weighs_begin r h2 h1).2.2 9 h2
    rw [isNum]
    exact (beq_iff_eq (a := varint (weighsN (r ++ [1]))) (b := r ++ [1])).2 this

theorem pack_bit : ∀ (l : List UInt8) (i : Nat), i < 8 * l.length → pack l / 2 ^ i % 2 = bi l (i / 8) / 2 ^ (i % 8) % 2
  | [], i, h => by simp at h
  | c :: l, i, h => by
    have hc := c.toNat_lt
    show (c.toNat + 256 * pack l) / 2 ^ i % 2 = _
    by_cases h8 : i < 8
    · have e1 : i / 8 = 0 := by omega
      have e2 : i % 8 = i := by omega
      have e3 : bi (c :: l) 0 = c.toNat := rfl
      rw [e1, e2, e3]
      have hd : 256 * pack l = 2 ^ i * (2 * (2 ^ (7 - i) * pack l)) := by
        rw [← Nat.mul_assoc 2, ← Nat.pow_succ', ← Nat.mul_assoc, ← Nat.pow_add, show i + (7 - i + 1) = 8 by omega]
      rw [hd, Nat.add_mul_div_left _ _ (Nat.two_pow_pos i)]
      omega
    · obtain ⟨j, rfl⟩ : ∃ j, i = j + 8 := ⟨i - 8, by omega⟩
      have e1 : (j + 8) / 8 = j / 8 + 1 := by omega
      have e2 : (j + 8) % 8 = j % 8 := by omega
      have e3 : bi (c :: l) (j / 8 + 1) = bi l (j / 8) := by simp [bi]
      rw [e1, e2, e3, ← pack_bit l j (by simp at h; omega), Nat.add_comm j 8, Nat.pow_add, ← Nat.div_div_eq_div_mul]
      congr 2
      omega
theorem pack_lt2 (l : List UInt8) : pack l < 2 ^ (8 * l.length) := by
  have := pack_lt l
  rwa [show (256 : Nat) = 2 ^ 8 by decide, ← Nat.pow_mul] at this

def sumFrom (X L i : Nat) : Nat := msn (L - i) (X / 2 ^ i)
theorem msn_bit (k y : Nat) (b : Nat) (hb : b < 2) : msn (k + 1) (2 * y + b) = msn k y ^^^ (if b = 1 then msn (k + 1) 1 else 0) := by
  have hb' : b = 0 ∨ b = 1 := by omega
  rcases hb' with rfl | rfl
  · show msn k (mstep (2 * y + 0)) = _
    rw [Nat.add_zero, mstep_even]; simp
  · have e : 2 * y + 1 = 2 * y ^^^ 1 := by
      have := add_eq_xor 1 0 (by decide)
      apply Nat.eq_of_testBit_eq
      intro i
      rw [Nat.testBit_xor]
      cases i with
      | zero => simp
      | succ i =>
        rw [Nat.testBit_succ, Nat.testBit_succ, Nat.testBit_succ, show (2 * y + 1) / 2 = y by omega, show 2 * y / 2 = y by omega]
        simp
    rw [e, msn_xor, if_pos rfl]
    show msn k (mstep (2 * y)) ^^^ _ = _
    rw [mstep_even]
theorem sumFrom_step (X L i : Nat) (h : i < L) : sumFrom X L i = sumFrom X L (i + 1) ^^^ (if X / 2 ^ i % 2 = 1 then msn (L - i) 1 else 0) := by
  unfold sumFrom
  have e : X / 2 ^ i = 2 * (X / 2 ^ (i + 1)) + X / 2 ^ i % 2 := by
    rw [Nat.pow_succ, ← Nat.div_div_eq_div_mul]; omega
  have e2 : L - i = (L - (i + 1)) + 1 := by omega
  rw [e2]
  conv => lhs; rw [e]
  exact msn_bit _ _ _ (Nat.mod_lt _ (by decide))
theorem crc_sum (l : List UInt8) : sumFrom (4294967295 ^^^ pack l) (8 * l.length) 0 = crcReg 4294967295 l := by
  unfold sumFrom
  rw [crcReg_pack, m8n_msn]; simp
theorem crc_bit (l : List UInt8) (i : Nat) (h : i < 8 * l.length) : (4294967295 ^^^ pack l) / 2 ^ i % 2 = (bi l (i / 8) / 2 ^ (i % 8) % 2 + if i < 32 then 1 else 0) % 2 := by
  have h1 : ∀ a b j : Nat, (a ^^^ b) / 2 ^ j = a / 2 ^ j ^^^ b / 2 ^ j := by
    intro a b j
    have := Nat.shiftRight_xor_distrib (a := a) (b := b) (i := j)
    simpa [Nat.shiftRight_eq_div_pow] using this
  rw [h1, xor_mod2, pack_bit l i h]
  have e : 4294967295 / 2 ^ i % 2 = if i < 32 then 1 else 0 := by
    by_cases h32 : i < 32
    · rw [if_pos h32]
      have : ∀ i : Fin 32, 4294967295 / 2 ^ i.val % 2 = 1 := by decide
      exact this ⟨i, h32⟩
    · rw [if_neg h32, Nat.div_eq_of_lt]
      have : 2 ^ 32 ≤ 2 ^ i := Nat.pow_le_pow_right (by decide) (by omega)
      have e32 : (2 : Nat) ^ 32 = 4294967296 := by decide
      omega
  rw [e, Nat.add_comm]
theorem sumFrom_top (l : List UInt8) : sumFrom (4294967295 ^^^ pack l) (8 * l.length) (8 * l.length) = 4294967295 / 2 ^ (8 * l.length) := by
  unfold sumFrom
  rw [Nat.sub_self]
  show (4294967295 ^^^ pack l) / 2 ^ (8 * l.length) = _
  have := Nat.shiftRight_xor_distrib (a := 4294967295) (b := pack l) (i := 8 * l.length)
  rw [Nat.shiftRight_eq_div_pow, Nat.shiftRight_eq_div_pow, Nat.shiftRight_eq_div_pow] at this
  rw [this, Nat.div_eq_of_lt (pack_lt2 l), Nat.xor_zero]
theorem msn_lt {r : Nat} (h : r < 4294967296) : ∀ k, msn k r < 4294967296
  | 0 => h
  | k + 1 => msn_lt (mstep_lt h) k
theorem msn_succ (k r : Nat) : msn (k + 1) r = mstep (msn k r) := msn_step k r
def topFrom (L i : Nat) : Nat := if L ≤ i then 4294967295 / 2 ^ i * 2 ^ (i - L) else 0
end Go.Am
