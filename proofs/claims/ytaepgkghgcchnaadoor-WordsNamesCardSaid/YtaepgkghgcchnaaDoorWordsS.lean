/-
 Words: what is told at a place hangs on what stands from there on; pieces cut out. No condition.
-/
import Derived.Test.YtaepgkghgcchnaaDoorWordsQ
set_option linter.unusedVariables false
set_option linter.unusedSimpArgs false
namespace Go.Pe
open Go Go.Am Go.RowKit

def NjY (t : List UInt8) : Option (Int × List UInt8 × Int × Nat) :=
 let s := t.take (Nda t)
 let c := cls (t.getD 0 0)
 if c = 3 then match Nfv 0 s with
  | some n => some (1, [], (n : Int), Nda t)
  | none => none
 else if c = 4 then some (if Nc2 (32 :: s ++ [32]) NaS then 3 else 2, s, 0, Nda t)
 else if c = 5 ∧ s ≠ [61] then some (4, s, 0, Nda t)
 else none
def NeD (d : List UInt8) : Option (Int × List UInt8 × Int × Nat) := if Nbe false d = d.length then some (5, [], 0, 0) else NjY (d.drop (Nbe false d))
def Niz (r : Option (Int × List UInt8 × Int × Nat)) (line : Int) (a : Nat) : PV := match r with
 | some (k, s, n, l) => NbO k s n line a ((a + l : Nat) : Int)
 | none => Na4 100 line
def Ncr (text : List UInt8) (a : Nat) : Int := NeR 10 (text.take a) 0 + 1
theorem NdH {text : List UInt8} {at0 : Nat} (h : at0 ≤ text.length) : Nb1 text at0 = Niz (NeD (text.drop at0)) (Ncr text (at0 + Nbe false (text.drop at0))) (at0 + Nbe false (text.drop at0)) := by
 have hp := Ncf false (text.drop at0)
 rw [List.length_drop] at hp
 unfold Nb1 NeD
 simp only []
 have hl : (text.drop at0).length = text.length - at0 := List.length_drop
 by_cases he : at0 + Nbe false (text.drop at0) = text.length
 ·have he' : Nbe false (text.drop at0) = (text.drop at0).length := by omega
  rw [if_pos he, if_pos he']
  simp [Niz, Ncr]
 ·have he' : ¬ Nbe false (text.drop at0) = (text.drop at0).length := by omega
  rw [if_neg he, if_neg he']
  have e1 : (text.drop at0).drop (Nbe false (text.drop at0)) = text.drop (at0 + Nbe false (text.drop at0)) := by rw [List.drop_drop]
  rw [e1]
  generalize at0 + Nbe false (text.drop at0) = a
  have e2 : (text.drop a).getD 0 0 = text.getD a 0 := by simp [List.getD_eq_getElem?_getD]
  unfold NjY
  simp only [e2]
  generalize cls (text.getD a 0) = c
  generalize (text.drop a).take (Nda (text.drop a)) = s
  by_cases c3 : c = 3
  ·simp only [c3, if_true]
   cases hn : Nfv 0 s <;> simp [Niz, Ncr]
  ·simp only [c3, if_false]
   by_cases c4 : c = 4
   ·simp [c4, Niz, Ncr]
   ·simp only [c4, if_false]
    split <;> simp [Niz, Ncr]
theorem NhK : ∀ l, Nda l ≤ l.length
 | [] => Nat.le_refl _
 | c :: r => by
   have := NeJ (cls c) r
   simp only [Nda, List.length_cons]
   split
   ·split
    ·rename_i h
     rcases r with _ | ⟨d, r⟩
     ·simp at h
     ·simp
    ·omega
   ·omega
end Go.Pe
