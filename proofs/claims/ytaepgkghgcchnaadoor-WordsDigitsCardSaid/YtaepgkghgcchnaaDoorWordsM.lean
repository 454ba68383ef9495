/-
 Words, as plain functions of bytes: what is passed over, where a token ends, numbers. No condition; nothing of the program.
-/
import Derived.Test.YtaepgkghgcchnaaDoorPe4
set_option linter.unusedVariables false
set_option linter.unusedSimpArgs false
namespace Go.Pe
open Go

def NbA (c : UInt8) : Bool := c == 9 || c == 10 || c == 13 || c == 32
def Nh7 (c : UInt8) : Bool := decide (48 ≤ c.toNat) && decide (c.toNat ≤ 57)
def NgX (c : UInt8) : Bool := (decide (97 ≤ c.toNat) && decide (c.toNat ≤ 122)) || (decide (65 ≤ c.toNat) && decide (c.toNat ≤ 90)) || c == 95
def Njc (c : UInt8) : Bool := c == 60 || c == 43 || c == 45 || c == 42 || c == 40 || c == 41 || c == 123 || c == 125 || c == 59 || c == 61
def cls (c : UInt8) : Nat := if NbA c then 1 else if c == 35 then 2 else if Nh7 c then 3 else if NgX c then 4 else if Njc c then 5 else 0
def clsCells : List PV := (List.range 256).map fun i => .i .u8 (cls (UInt8.ofNat i))
def Nbf : Bool → List UInt8 → Nat
 | _, [] => 0
 | true, c :: r => 1 + (if c = 10 then Nbf false r else Nbf true r)
 | false, c :: r => if NbA c then 1 + Nbf false r else if c = 35 then 1 + Nbf true r else 0
theorem Nce : ∀ (b : Bool) (l : List UInt8), Nbf b l ≤ l.length
 | true, [] => Nat.le_refl _
 | false, [] => Nat.le_refl _
 | true, c :: r => by
   simp only [Nbf, List.length_cons]
   have := Nce true r; have := Nce false r
   split <;> omega
 | false, c :: r => by
   simp only [Nbf, List.length_cons]
   have := Nce true r; have := Nce false r
   split
   ·omega
   ·split <;> omega
theorem NdE (c : UInt8) : ∀ (l : List UInt8) (n : Nat), NdK c l n = -1 ∨ (n : Int) ≤ NdK c l n
 | [], n => .inl rfl
 | b :: l, n => by
   unfold NdK
   split
   ·exact .inr (Int.le_refl _)
   ·rcases NdE c l (n + 1) with h | h
    ·exact .inl h
    ·right; omega
theorem Nd9 : ∀ (l : List UInt8) (n : Nat), NdK 10 l n = -1 → Nbf true l = l.length
 | [], n, _ => rfl
 | b :: l, n, h => by
   unfold NdK at h
   split at h
   ·omega
   ·rename_i hb
    simp only [Nbf, if_neg hb, List.length_cons]
    rw [Nd9 l _ h]; omega
theorem Nea : ∀ (l : List UInt8) (n : Nat) (p : Nat), NdK 10 l n = (n + p : Nat) → Nbf true l = p + Nbf false (l.drop p) ∧ p < l.length
 | [], n, p, h => by simp [NdK] at h; omega
 | b :: l, n, p, h => by
   unfold NdK at h
   split at h
   ·rename_i hb
    have : p = 0 := by omega
    subst this
    subst hb
    simp [Nbf, NbA]
   ·rename_i hb
    rcases NdE 10 l (n + 1) with h1 | h1
    ·rw [h1] at h; omega
    ·obtain ⟨q, rfl⟩ : ∃ q, p = q + 1 := ⟨p - 1, by omega⟩
     obtain ⟨h2, h3⟩ := Nea l (n + 1) q (by rw [h]; omega)
     simp only [Nbf, if_neg hb, List.drop_succ_cons, List.length_cons, h2]
     omega
theorem NjW {c : UInt8} (h : NbA c = true) : cls c = 1 := by simp [cls, h]
theorem NjX {c : UInt8} (h : c = 35) : cls c = 2 := by subst h; decide
theorem NjV {c : UInt8} (h : ¬ NbA c = true) (h2 : ¬ c = 35) : cls c ≠ 1 ∧ cls c ≠ 2 := by
 unfold cls
 rw [if_neg h, if_neg (by simpa using h2)]
 constructor <;> (repeat' split) <;> decide
theorem Nbj {text : List UInt8} {i : Nat} (h : i < text.length) : text.drop i = text.getD i 0 :: text.drop (i + 1) := by
 rw [List.drop_eq_getElem_cons h]
 simp [List.getD_eq_getElem?_getD, List.getElem?_eq_getElem h]
def NeK (first : Nat) : List UInt8 → Nat
 | [] => 0
 | c :: r => if cls c = 3 ∨ (cls c = 4 ∧ first = 4) then 1 + NeK first r else 0
theorem Ngj (first : Nat) : ∀ l, NeK first l ≤ l.length
 | [] => Nat.le_refl _
 | c :: r => by
   simp only [NeK, List.length_cons]
   have := Ngj first r
   split <;> omega
def NdJ : List UInt8 → Nat
 | [] => 0
 | c :: r => if cls c = 5 then (if (c :: r).take 2 = [45, 62] ∨ (c :: r).take 2 = [61, 61] then 2 else 1) else 1 + NeK (cls c) r
def NdD : Nat → List UInt8 → Option Nat
 | n, [] => some n
 | n, c :: r => if (9223372036854775807 - (c.toNat + 208) % 256) / 10 < n then none else NdD (n * 10 + (c.toNat + 208) % 256) r
end Go.Pe
