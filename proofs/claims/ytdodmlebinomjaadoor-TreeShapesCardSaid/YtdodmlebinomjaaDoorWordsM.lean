/-
 Words, as plain functions of bytes: what is passed over, where a token ends, numbers. No condition; nothing of the program.
-/
import Derived.Test.YtdodmlebinomjaaDoorPe4
set_option linter.unusedVariables false
set_option linter.unusedSimpArgs false
namespace Go.Pe
open Go

def Nb0 (c : UInt8) : Bool := c == 9 || c == 10 || c == 13 || c == 32
def NnL (c : UInt8) : Bool := decide (48 ≤ c.toNat) && decide (c.toNat ≤ 57)
def NiN (c : UInt8) : Bool := (decide (97 ≤ c.toNat) && decide (c.toNat ≤ 122)) || (decide (65 ≤ c.toNat) && decide (c.toNat ≤ 90)) || c == 95
def Nqq (c : UInt8) : Bool := c == 60 || c == 43 || c == 45 || c == 42 || c == 40 || c == 41 || c == 123 || c == 125 || c == 59 || c == 61
def cls (c : UInt8) : Nat := if Nb0 c then 1 else if c == 35 then 2 else if NnL c then 3 else if NiN c then 4 else if Nqq c then 5 else 0
def clsCells : List PV := (List.range 256).map fun i => .i .u8 (cls (UInt8.ofNat i))
def NbN : Bool → List UInt8 → Nat
 | _, [] => 0
 | true, c :: r => 1 + (if c = 10 then NbN false r else NbN true r)
 | false, c :: r => if Nb0 c then 1 + NbN false r else if c = 35 then 1 + NbN true r else 0
theorem NcP : ∀ (b : Bool) (l : List UInt8), NbN b l ≤ l.length
 | true, [] => Nat.le_refl _
 | false, [] => Nat.le_refl _
 | true, c :: r => by
   simp only [NbN, List.length_cons]
   have := NcP true r; have := NcP false r
   split <;> omega
 | false, c :: r => by
   simp only [NbN, List.length_cons]
   have := NcP true r; have := NcP false r
   split
   ·omega
   ·split <;> omega
theorem Ndo (c : UInt8) : ∀ (l : List UInt8) (n : Nat), Ndu c l n = -1 ∨ (n : Int) ≤ Ndu c l n
 | [], n => .inl rfl
 | b :: l, n => by
   unfold Ndu
   split
   ·exact .inr (Int.le_refl _)
   ·rcases Ndo c l (n + 1) with h | h
    ·exact .inl h
    ·right; omega
theorem NdR : ∀ (l : List UInt8) (n : Nat), Ndu 10 l n = -1 → NbN true l = l.length
 | [], n, _ => rfl
 | b :: l, n, h => by
   unfold Ndu at h
   split at h
   ·omega
   ·rename_i hb
    simp only [NbN, if_neg hb, List.length_cons]
    rw [NdR l _ h]; omega
theorem NdS : ∀ (l : List UInt8) (n : Nat) (p : Nat), Ndu 10 l n = (n + p : Nat) → NbN true l = p + NbN false (l.drop p) ∧ p < l.length
 | [], n, p, h => by simp [Ndu] at h; omega
 | b :: l, n, p, h => by
   unfold Ndu at h
   split at h
   ·rename_i hb
    have : p = 0 := by omega
    subst this
    subst hb
    simp [NbN, Nb0]
   ·rename_i hb
    rcases Ndo 10 l (n + 1) with h1 | h1
    ·rw [h1] at h; omega
    ·obtain ⟨q, rfl⟩ : ∃ q, p = q + 1 := ⟨p - 1, by omega⟩
     obtain ⟨h2, h3⟩ := NdS l (n + 1) q (by rw [h]; omega)
     simp only [NbN, if_neg hb, List.drop_succ_cons, List.length_cons, h2]
     omega
theorem Nrp {c : UInt8} (h : Nb0 c = true) : cls c = 1 := by simp [cls, h]
theorem Nrq {c : UInt8} (h : c = 35) : cls c = 2 := by subst h; decide
theorem Nro {c : UInt8} (h : ¬ Nb0 c = true) (h2 : ¬ c = 35) : cls c ≠ 1 ∧ cls c ≠ 2 := by
 unfold cls
 rw [if_neg h, if_neg (by simpa using h2)]
 constructor <;> (repeat' split) <;> decide
theorem Nbe {text : List UInt8} {i : Nat} (h : i < text.length) : text.drop i = text.getD i 0 :: text.drop (i + 1) := by
 rw [List.drop_eq_getElem_cons h]
 simp [List.getD_eq_getElem?_getD, List.getElem?_eq_getElem h]
def Ni0 (first : Nat) : List UInt8 → Nat
 | [] => 0
 | c :: r => if cls c = 3 ∨ (cls c = 4 ∧ first = 4) then 1 + Ni0 first r else 0
theorem NfP (first : Nat) : ∀ l, Ni0 first l ≤ l.length
 | [] => Nat.le_refl _
 | c :: r => by
   simp only [Ni0, List.length_cons]
   have := NfP first r
   split <;> omega
def Nfb : List UInt8 → Nat
 | [] => 0
 | c :: r => if cls c = 5 then (if (c :: r).take 2 = [45, 62] ∨ (c :: r).take 2 = [61, 61] then 2 else 1) else 1 + Ni0 (cls c) r
def NfB : Nat → List UInt8 → Option Nat
 | n, [] => some n
 | n, c :: r => if (9223372036854775807 - (c.toNat + 208) % 256) / 10 < n then none else NfB (n * 10 + (c.toNat + 208) % 256) r
end Go.Pe
