/-
 Words, as plain functions of bytes: what is passed over, where a token ends, numbers. No condition; nothing of the program.
-/
import Derived.Test.YtnnokaklkegngaaDoorPe4
set_option linter.unusedVariables false
set_option linter.unusedSimpArgs false
namespace Go.Pe
open Go

def Nb6 (c : UInt8) : Bool := c == 9 || c == 10 || c == 13 || c == 32
def Nho (c : UInt8) : Bool := decide (48 ≤ c.toNat) && decide (c.toNat ≤ 57)
def Ngl (c : UInt8) : Bool := (decide (97 ≤ c.toNat) && decide (c.toNat ≤ 122)) || (decide (65 ≤ c.toNat) && decide (c.toNat ≤ 90)) || c == 95
def Nia (c : UInt8) : Bool := c == 60 || c == 43 || c == 45 || c == 42 || c == 40 || c == 41 || c == 123 || c == 125 || c == 59 || c == 61
def cls (c : UInt8) : Nat := if Nb6 c then 1 else if c == 35 then 2 else if Nho c then 3 else if Ngl c then 4 else if Nia c then 5 else 0
def clsCells : List PV := (List.range 256).map fun i => .i .u8 (cls (UInt8.ofNat i))
def NbN : Bool → List UInt8 → Nat
 | _, [] => 0
 | true, c :: r => 1 + (if c = 10 then NbN false r else NbN true r)
 | false, c :: r => if Nb6 c then 1 + NbN false r else if c = 35 then 1 + NbN true r else 0
theorem NcP : ∀ (b : Bool) (l : List UInt8), NbN b l ≤ l.length
 | true, [] => Nat.le_refl _
 | false, [] => Nat.le_refl _
 | true, c :: r => by
   simp only [NbN, List.length_cons]
   have := NcP true r; have := NcP false r
   split <;> omega
 | false, c :: r => by
   simp only [NbN, List.length_cons]
   have := NcP true r; have := NcP false r
   split
   ·omega
   ·split <;> omega
theorem Ndi (c : UInt8) : ∀ (l : List UInt8) (n : Nat), Ndw c l n = -1 ∨ (n : Int) ≤ Ndw c l n
 | [], n => .inl rfl
 | b :: l, n => by
   unfold Ndw
   split
   ·exact .inr (Int.le_refl _)
   ·rcases Ndi c l (n + 1) with h | h
    ·exact .inl h
    ·right; omega
theorem NdK : ∀ (l : List UInt8) (n : Nat), Ndw 10 l n = -1 → NbN true l = l.length
 | [], n, _ => rfl
 | b :: l, n, h => by
   unfold Ndw at h
   split at h
   ·omega
   ·rename_i hb
    simp only [NbN, if_neg hb, List.length_cons]
    rw [NdK l _ h]; omega
theorem NdR : ∀ (l : List UInt8) (n : Nat) (p : Nat), Ndw 10 l n = (n + p : Nat) → NbN true l = p + NbN false (l.drop p) ∧ p < l.length
 | [], n, p, h => by simp [Ndw] at h; omega
 | b :: l, n, p, h => by
   unfold Ndw at h
   split at h
   ·rename_i hb
    have : p = 0 := by omega
    subst this
    subst hb
    simp [NbN, Nb6]
   ·rename_i hb
    rcases Ndi 10 l (n + 1) with h1 | h1
    ·rw [h1] at h; omega
    ·obtain ⟨q, rfl⟩ : ∃ q, p = q + 1 := ⟨p - 1, by omega⟩
     obtain ⟨h2, h3⟩ := NdR l (n + 1) q (by rw [h]; omega)
     simp only [NbN, if_neg hb, List.drop_succ_cons, List.length_cons, h2]
     omega
theorem NiT {c : UInt8} (h : Nb6 c = true) : cls c = 1 := by simp [cls, h]
theorem NiH {c : UInt8} (h : c = 35) : cls c = 2 := by subst h; decide
theorem NiV {c : UInt8} (h : ¬ Nb6 c = true) (h2 : ¬ c = 35) : cls c ≠ 1 ∧ cls c ≠ 2 := by
 unfold cls
 rw [if_neg h, if_neg (by simpa using h2)]
 constructor <;> (repeat' split) <;> decide
theorem Nbg {text : List UInt8} {i : Nat} (h : i < text.length) : text.drop i = text.getD i 0 :: text.drop (i + 1) := by
 rw [List.drop_eq_getElem_cons h]
 simp [List.getD_eq_getElem?_getD, List.getElem?_eq_getElem h]
def Ngn (first : Nat) : List UInt8 → Nat
 | [] => 0
 | c :: r => if cls c = 3 ∨ (cls c = 4 ∧ first = 4) then 1 + Ngn first r else 0
theorem Nfy (first : Nat) : ∀ l, Ngn first l ≤ l.length
 | [] => Nat.le_refl _
 | c :: r => by
   simp only [Ngn, List.length_cons]
   have := Nfy first r
   split <;> omega
def NeY : List UInt8 → Nat
 | [] => 0
 | c :: r => if cls c = 5 then (if (c :: r).take 2 = [45, 62] ∨ (c :: r).take 2 = [61, 61] then 2 else 1) else 1 + Ngn (cls c) r
def Nfk : Nat → List UInt8 → Option Nat
 | n, [] => some n
 | n, c :: r => if (9223372036854775807 - (c.toNat + 208) % 256) / 10 < n then none else Nfk (n * 10 + (c.toNat + 208) % 256) r
end Go.Pe
