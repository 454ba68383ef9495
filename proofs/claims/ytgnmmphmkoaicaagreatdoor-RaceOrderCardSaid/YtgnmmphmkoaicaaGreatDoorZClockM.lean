/-
 The plain mathematics of clocks: lists of numbers, read as 0 behind their end. No condition; nothing of the program.
-/
import Derived.Test.YtgnmmphmkoaicaaGreatDoorZLib
namespace Go.Am

def Nbe (xs ys : List Int) : List Int := (List.range (max xs.length ys.length)).map fun i => max (gi xs i) (gi ys i)
def NcB (xs : List Int) (t : Nat) : List Int := xs ++ List.replicate (t + 1 - xs.length) 0
def Ncp (xs : List Int) (t : Nat) : List Int := if gi (NcB xs t) t < 9223372036854775807 then (NcB xs t).set t (gi (NcB xs t) t + 1) else NcB xs t
def NbB (xs : List Int) (t : Int) : List Int := if t < 0 ∨ 63 < t then xs else Ncp xs t.toNat

theorem Nbf (xs ys : List Int) : (Nbe xs ys).length = max xs.length ys.length := by simp [Nbe]
theorem NjF (xs ys : List Int) (i : Nat) : gi (Nbe xs ys) i = max (gi xs i) (gi ys i) := by
 by_cases h : i < max xs.length ys.length
 ·rw [NdO (by rw [Nbf]; exact h)]; simp [Nbe]
 ·rw [NcO (by rw [Nbf]; omega), NcO (by omega), NcO (by omega)]; rfl
theorem NdS (xs ys : List Int) (k : Nat) (h : k < max xs.length ys.length) : (Nbe xs ys).take (k + 1) = (Nbe xs ys).take k ++ [max (gi xs k) (gi ys k)] := by
 rw [List.take_succ_eq_append_getElem (by rw [Nbf]; exact h)]
 congr 2
 simp [Nbe]
theorem Nei (xs ys : List Int) : (Nbe xs ys).take (max xs.length ys.length) = Nbe xs ys := by
 rw [List.take_of_length_le]; rw [Nbf]; exact Nat.le_refl _

theorem Nda (xs : List Int) (t : Nat) : (NcB xs t).length = max xs.length (t + 1) := by simp [NcB]; omega
theorem NdN (xs : List Int) (n i : Nat) : gi (xs ++ List.replicate n 0) i = gi xs i := by
 by_cases h : i < xs.length
 ·rw [NdO (by simp; omega), NdO h, List.getElem_append_left]
 ·rw [NcO (xs := xs) (by omega)]
  by_cases h2 : i < xs.length + n
  ·rw [NdO (by simp; omega), List.getElem_append_right (by omega)]; simp
  ·exact NcO (by simp; omega)
theorem Ndm (xs : List Int) (t i : Nat) : gi (NcB xs t) i = gi xs i := NdN _ _ _
theorem Nmu (xs : List Int) (t : Nat) (v : Int) (i : Nat) (h : t < xs.length) : gi (xs.set t v) i = if i = t then v else gi xs i := by
 by_cases hi : i < xs.length
 ·rw [NdO (by simpa using hi), List.getElem_set]
  by_cases e : t = i
  ·subst e; simp
  ·rw [if_neg e, if_neg (fun h => e h.symm), NdO hi]
 ·rw [NcO (by simp; omega), NcO (xs := xs) (by omega), if_neg (by omega)]
theorem NcF (xs : List Int) (t : Nat) : (Ncp xs t).length = max xs.length (t + 1) := by
 unfold Ncp; split <;> simp [Nda]
theorem Nfm (xs : List Int) (t i : Nat) : gi (Ncp xs t) i = if i = t ∧ gi xs t < 9223372036854775807 then gi xs t + 1 else gi xs i := by
 unfold Ncp
 rw [Ndm]
 split
 ·rename_i h
  rw [Nmu _ _ _ _ (by rw [Nda]; omega), Ndm]
  by_cases e : i = t <;> simp [e, h]
 ·rename_i h
  rw [Ndm]
  by_cases e : i = t
  ·subst e; simp [h]
  ·simp [e]
theorem NcG {xs : List Int} {t : Int} (h0 : 0 ≤ t) (h1 : t ≤ 63) : NbB xs t = Ncp xs t.toNat := by unfold NbB; rw [if_neg (by omega)]
theorem NiT {xs : List Int} {t : Int} (h : t < 0 ∨ 63 < t) : NbB xs t = xs := by unfold NbB; rw [if_pos h]
end Go.Am
