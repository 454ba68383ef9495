/-
 Words: what is told at a place hangs on what stands from there on; pieces cut out. No condition.
-/
import Derived.Test.YtaepgkghgcchnaaDoorWordsQ
set_option linter.unusedVariables false
set_option linter.unusedSimpArgs false
namespace Go.Pe
open Go Go.Am Go.RowKit

def Nkt (t : List UInt8) : Option (Int × List UInt8 × Int × Nat) :=
 let s := t.take (NdJ t)
 let c := cls (t.getD 0 0)
 if c = 3 then match NdD 0 s with
  | some n => some (1, [], (n : Int), NdJ t)
  | none => none
 else if c = 4 then some (if NfB (32 :: s ++ [32]) NbV then 3 else 2, s, 0, NdJ t)
 else if c = 5 ∧ s ≠ [61] then some (4, s, 0, NdJ t)
 else none
def Ng1 (d : List UInt8) : Option (Int × List UInt8 × Int × Nat) := if Nbf false d = d.length then some (5, [], 0, 0) else Nkt (d.drop (Nbf false d))
def Njr (r : Option (Int × List UInt8 × Int × Nat)) (line : Int) (a : Nat) : PV := match r with
 | some (k, s, n, l) => Nch k s n line a ((a + l : Nat) : Int)
 | none => NaV 100 line
def Ndg (text : List UInt8) (a : Nat) : Int := NeV 10 (text.take a) 0 + 1
theorem Ng2 {text : List UInt8} {at0 : Nat} (h : at0 ≤ text.length) : NbW text at0 = Njr (Ng1 (text.drop at0)) (Ndg text (at0 + Nbf false (text.drop at0))) (at0 + Nbf false (text.drop at0)) := by
 have hp := Nce false (text.drop at0)
 rw [List.length_drop] at hp
 unfold NbW Ng1
 simp only []
 have hl : (text.drop at0).length = text.length - at0 := List.length_drop
 by_cases he : at0 + Nbf false (text.drop at0) = text.length
 ·have he' : Nbf false (text.drop at0) = (text.drop at0).length := by omega
  rw [if_pos he, if_pos he']
  simp [Njr, Ndg]
 ·have he' : ¬ Nbf false (text.drop at0) = (text.drop at0).length := by omega
  rw [if_neg he, if_neg he']
  have e1 : (text.drop at0).drop (Nbf false (text.drop at0)) = text.drop (at0 + Nbf false (text.drop at0)) := by rw [List.drop_drop]
  rw [e1]
  generalize at0 + Nbf false (text.drop at0) = a
  have e2 : (text.drop a).getD 0 0 = text.getD a 0 := by simp [List.getD_eq_getElem?_getD]
  unfold Nkt
  simp only [e2]
  generalize cls (text.getD a 0) = c
  generalize (text.drop a).take (NdJ (text.drop a)) = s
  by_cases c3 : c = 3
  ·simp only [c3, if_true]
   cases hn : NdD 0 s <;> simp [Njr, Ndg]
  ·simp only [c3, if_false]
   by_cases c4 : c = 4
   ·simp [c4, Njr, Ndg]
   ·simp only [c4, if_false]
    split <;> simp [Njr, Ndg]
end Go.Pe
