/-
 Words: numbers by their value; the document's answer as one function: it is the program's. No condition.
-/
import Derived.Test.YtaepgkghgcchnaaDoorWordsD
set_option linter.unusedVariables false
set_option linter.unusedSimpArgs false
namespace Go.Pe
open Go Go.Am Go.RowKit

def NaW : Nat → List UInt8 → Nat
 | n, [] => n
 | n, c :: r => NaW (n * 10 + (c.toNat - 48)) r
def digs (l : List UInt8) : Prop := ∀ c ∈ l, 48 ≤ c.toNat ∧ c.toNat ≤ 57
theorem digs.tail {c : UInt8} {r : List UInt8} (h : digs (c :: r)) : digs r := fun x hx => h x (List.mem_cons_of_mem _ hx)
theorem digs.head {c : UInt8} {r : List UInt8} (h : digs (c :: r)) : 48 ≤ c.toNat ∧ c.toNat ≤ 57 := h c List.mem_cons_self
theorem NdI (l : List UInt8) : ∀ n : Nat, n * 10 ^ l.length ≤ NaW n l := by
 induction l with
 | nil =>
   intro n
   rw [List.length_nil, Nat.pow_zero, Nat.mul_one]
   exact Nat.le_refl _
 | cons c r ih =>
   intro n
   have := ih (n * 10 + (c.toNat - 48))
   have e : n * 10 ^ (c :: r).length = n * 10 * 10 ^ r.length := by
    rw [List.length_cons, Nat.pow_succ, Nat.mul_comm (10 ^ r.length) 10, ← Nat.mul_assoc]
   rw [e]
   have h2 : n * 10 * 10 ^ r.length ≤ (n * 10 + (c.toNat - 48)) * 10 ^ r.length := Nat.mul_le_mul_right _ (Nat.le_add_right _ _)
   exact Nat.le_trans h2 this
theorem Neh (l : List UInt8) (n : Nat) : n ≤ NaW n l := by
 have := NdI l n
 have h2 : 0 < 10 ^ l.length := Nat.pow_pos (by omega)
 exact Nat.le_trans (Nat.le_mul_of_pos_right _ h2) this
theorem NeR (l : List UInt8) : ∀ n : Nat, digs l → NaW n l < (n + 1) * 10 ^ l.length := by
 induction l with
 | nil =>
   intro n _
   rw [List.length_nil, Nat.pow_zero, Nat.mul_one]
   exact Nat.lt_succ_self _
 | cons c r ih =>
   intro n h
   have := ih (n * 10 + (c.toNat - 48)) h.tail
   have hc := h.head
   have e : (n + 1) * 10 ^ (c :: r).length = (n + 1) * 10 * 10 ^ r.length := by
    rw [List.length_cons, Nat.pow_succ, Nat.mul_comm (10 ^ r.length) 10, ← Nat.mul_assoc]
   rw [e]
   have h2 : (n * 10 + (c.toNat - 48) + 1) * 10 ^ r.length ≤ (n + 1) * 10 * 10 ^ r.length := Nat.mul_le_mul_right _ (by omega)
   exact Nat.lt_of_lt_of_le this h2
theorem Nii (l : List UInt8) : ∀ n : Nat, digs l → n ≤ 9223372036854775807 → NdD n l = if NaW n l ≤ 9223372036854775807 then some (NaW n l) else none := by
 induction l with
 | nil =>
   intro n _ hn
   have e1 : NdD n [] = some n := rfl
   have e2 : NaW n [] = n := rfl
   rw [e1, e2, if_pos hn]
 | cons c r ih =>
   intro n h hn
   have hc := h.head
   have e : (c.toNat + 208) % 256 = c.toNat - 48 := by omega
   have ev : NaW n (c :: r) = NaW (n * 10 + (c.toNat - 48)) r := rfl
   have en : NdD n (c :: r) = if (9223372036854775807 - (c.toNat + 208) % 256) / 10 < n then none else NdD (n * 10 + (c.toNat + 208) % 256) r := by rw [NdD]
   rw [ev, en, e]
   have hs := Neh r (n * 10 + (c.toNat - 48))
   by_cases hg : (9223372036854775807 - (c.toNat - 48)) / 10 < n
   ·rw [if_pos hg]
    generalize NaW (n * 10 + (c.toNat - 48)) r = v at *
    have : ¬ v ≤ 9223372036854775807 := by omega
    rw [if_neg this]
   ·rw [if_neg hg]
    exact ih _ h.tail (by omega)
def Nae : List UInt8 → List UInt8
 | [] => []
 | [c] => [c]
 | c :: d :: r => if c = 48 then Nae (d :: r) else c :: d :: r
theorem NbI : ∀ (l : List UInt8), NaW 0 (Nae l) = NaW 0 l
 | [] => rfl
 | [c] => rfl
 | c :: d :: r => by
   unfold Nae
   split
   ·rename_i h
    rw [NbI (d :: r)]
    subst h
    rfl
   ·rfl
theorem Nbm : ∀ {l : List UInt8}, digs l → digs (Nae l)
 | [], h => h
 | [c], h => h
 | c :: d :: r, h => by
   unfold Nae
   split
   ·exact Nbm h.tail
   ·exact h
theorem Nc3 : ∀ (l : List UInt8), (Nae l).length ≤ l.length
 | [] => Nat.le_refl _
 | [c] => Nat.le_refl _
 | c :: d :: r => by
   unfold Nae
   split
   ·have := Nc3 (d :: r)
    simp only [List.length_cons] at this ⊢; omega
   ·exact Nat.le_refl _
theorem Ndn : ∀ (l : List UInt8), (Nae l).length ≤ 1 ∨ ∃ c r, Nae l = c :: r ∧ c ≠ 48
 | [] => .inl (by simp [Nae])
 | [c] => .inl (by simp [Nae])
 | c :: d :: r => by
   unfold Nae
   split
   ·exact Ndn (d :: r)
   ·rename_i h; exact .inr ⟨c, d :: r, rfl, h⟩
theorem Nfy {l : List UInt8} (h : digs l) (h2 : 19 < (Nae l).length) : 9223372036854775807 < NaW 0 l := by
 rw [← NbI]
 have hd := Nbm h
 rcases Ndn l with h1 | ⟨c, r, e, hc⟩
 ·omega
 ·rw [e] at h2 hd ⊢
  have hc2 := hd.head
  have hc3 : c.toNat ≠ 48 := fun e => hc (UInt8.toNat_inj.1 (by simpa using e))
  have hg := NdI r (0 * 10 + (c.toNat - 48))
  have hrl : 19 ≤ r.length := by simp only [List.length_cons] at h2; omega
  have h4 : 10 ^ 19 ≤ 10 ^ r.length := Nat.pow_le_pow_right (Nat.le_of_ble_eq_true rfl) hrl
  have h6 : 0 < 0 * 10 + (c.toNat - 48) := by omega
  have h5 : 10 ^ r.length ≤ (0 * 10 + (c.toNat - 48)) * 10 ^ r.length := Nat.le_mul_of_pos_left _ h6
  have h8 : 9223372036854775807 < 10 ^ 19 := Nat.le_of_ble_eq_true rfl
  exact Nat.lt_of_lt_of_le h8 (Nat.le_trans h4 (Nat.le_trans h5 hg))
theorem NgZ : Op.bytesLess [] [] = false := rfl
theorem Nf0 (x y : UInt8) (a b : List UInt8) : Op.bytesLess (x :: a) (y :: b) = (decide (x < y) || (x == y && Op.bytesLess a b)) := by rw [Op.bytesLess]
theorem Ngn (a : List UInt8) : ∀ (b : List UInt8) (n : Nat), digs a → digs b → a.length = b.length → ((Op.bytesLess a b = true ↔ NaW n a < NaW n b) ∧ (a = b ↔ NaW n a = NaW n b)) := by
 induction a with
 | nil =>
   intro b n _ _ h
   cases b with
   | nil => rw [NgZ]; exact ⟨⟨fun q => by simp at q, fun q => absurd q (Nat.lt_irrefl _)⟩, ⟨fun _ => rfl, fun _ => rfl⟩⟩
   | cons y b => simp at h
 | cons x a ih =>
   intro b n ha hb h
   cases b with
   | nil => simp at h
   | cons y b =>
     simp only [List.length_cons, Nat.add_right_cancel_iff] at h
     have hx := ha.head
     have hy := hb.head
     have l1 := NeR a (n * 10 + (x.toNat - 48)) ha.tail
     have l2 := NeR b (n * 10 + (y.toNat - 48)) hb.tail
     have g1 := NdI a (n * 10 + (x.toNat - 48))
     have g2 := NdI b (n * 10 + (y.toNat - 48))
     rw [h] at l1 g1
     have ex : NaW n (x :: a) = NaW (n * 10 + (x.toNat - 48)) a := rfl
     have ey : NaW n (y :: b) = NaW (n * 10 + (y.toNat - 48)) b := rfl
     rw [Nf0, ex, ey]
     by_cases e : x = y
     ·subst e
      obtain ⟨i1, i2⟩ := ih b (n * 10 + (x.toNat - 48)) ha.tail hb.tail h
      have hxx : decide (x < x) = false := by simp
      rw [hxx, Bool.false_or, beq_self_eq_true, Bool.true_and]
      exact ⟨i1, ⟨fun q => i2.1 (List.cons.inj q).2, fun q => by rw [i2.2 q]⟩⟩
     ·have e' : x.toNat ≠ y.toNat := fun h => e (UInt8.toNat_inj.1 h)
      have exy : (x == y) = false := by simpa using e
      rw [exy, Bool.false_and, Bool.or_false]
      have hne : ¬ (x :: a = y :: b) := fun q => e (List.cons.inj q).1
      rcases Nat.lt_or_gt_of_ne e' with hl | hl
      ·have h3 : (n * 10 + (x.toNat - 48) + 1) * 10 ^ b.length ≤ (n * 10 + (y.toNat - 48)) * 10 ^ b.length := Nat.mul_le_mul_right _ (by omega)
       have hxy : x < y := UInt8.lt_iff_toNat_lt.2 hl
       have hv := Nat.lt_of_lt_of_le l1 (Nat.le_trans h3 g2)
       exact ⟨⟨fun _ => hv, fun _ => by simpa using hxy⟩, ⟨fun q => absurd q hne, fun q => absurd q (Nat.ne_of_lt hv)⟩⟩
      ·have h3 : (n * 10 + (y.toNat - 48) + 1) * 10 ^ b.length ≤ (n * 10 + (x.toNat - 48)) * 10 ^ b.length := Nat.mul_le_mul_right _ (by omega)
       have hxy : ¬ x < y := fun q => by have := UInt8.lt_iff_toNat_lt.1 q; omega
       have hv := Nat.lt_of_lt_of_le l2 (Nat.le_trans h3 g1)
       exact ⟨⟨fun q => absurd (by simpa using q) hxy, fun q => absurd q (Nat.lt_asymm hv)⟩, ⟨fun q => absurd q hne, fun q => absurd q.symm (Nat.ne_of_lt hv)⟩⟩
def mostT : List UInt8 := [57, 50, 50, 51, 51, 55, 50, 48, 51, 54, 56, 53, 52, 55, 55, 53, 56, 48, 55]
theorem Nf4 : digs mostT := by
 intro c hc
 have : (mostT.all fun c => decide (48 ≤ c.toNat) && decide (c.toNat ≤ 57)) = true := by decide
 rw [List.all_eq_true] at this
 simpa using this c hc
theorem Ng0 : NaW 0 mostT = 9223372036854775807 := by decide
theorem Nfz {l : List UInt8} (h : digs l) (h2 : (Nae l).length = 19) : (!(Op.bytesLess (Nae l) mostT || Nae l == mostT)) = decide (9223372036854775807 < NaW 0 l) := by
 obtain ⟨i1, i2⟩ := Ngn (Nae l) mostT 0 (Nbm h) Nf4 (by rw [h2]; rfl)
 rw [NbI, Ng0] at i1 i2
 by_cases h3 : Op.bytesLess (Nae l) mostT = true
 ·have := i1.1 h3
  rw [h3]; simp; omega
 ·by_cases h4 : Nae l = mostT
  ·have := i2.1 h4
   simp [h4]; omega
  ·have : (Nae l == mostT) = false := by simpa using h4
   have h5 : Op.bytesLess (Nae l) mostT = false := by simpa using h3
   rw [h5, this]
   have n1 : ¬ NaW 0 l < 9223372036854775807 := fun q => h3 (i1.2 q)
   have n2 : ¬ NaW 0 l = 9223372036854775807 := fun q => h4 (i2.2 q)
   simp; omega
theorem NeP {l : List UInt8} (h : digs l) (h2 : (Nae l).length < 19) : NaW 0 l ≤ 9223372036854775807 := by
 rw [← NbI]
 have h3 := NeR (Nae l) 0 (Nbm h)
 have h4 : 10 ^ (Nae l).length ≤ 10 ^ 18 := Nat.pow_le_pow_right (Nat.le_of_ble_eq_true rfl) (by omega)
 have h8 : 10 ^ 18 ≤ 9223372036854775807 := Nat.le_of_ble_eq_true rfl
 rw [Nat.zero_add, Nat.one_mul] at h3
 exact Nat.le_trans (Nat.le_of_lt h3) (Nat.le_trans h4 h8)
end Go.Pe
