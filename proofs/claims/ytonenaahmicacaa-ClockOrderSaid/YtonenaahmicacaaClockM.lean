/-
  The plain mathematics of clocks: lists of numbers, read as 0 behind their end. No condition; nothing of the program.
-/
import Derived.Test.YtonenaahmicacaaLib
namespace Go.Am

/-- the greater number at each place -/
def joinL (xs ys : List Int) : List Int := (List.range (max xs.length ys.length)).map fun i => max (gi xs i) (gi ys i)
def leqB (xs ys : List Int) : Bool := (List.range (max xs.length ys.length)).all fun i => decide (gi xs i ≤ gi ys i)
/-- noughts behind, as far as place t -/
def padTo (xs : List Int) (t : Nat) : List Int := xs ++ List.replicate (t + 1 - xs.length) 0
def tickAt (xs : List Int) (t : Nat) : List Int := if gi (padTo xs t) t < 9223372036854775807 then (padTo xs t).set t (gi (padTo xs t) t + 1) else padTo xs t
def tickL (xs : List Int) (t : Int) : List Int := if t < 0 ∨ 63 < t then xs else tickAt xs t.toNat

theorem joinL_length (xs ys : List Int) : (joinL xs ys).length = max xs.length ys.length := by simp [joinL]
theorem gi_joinL (xs ys : List Int) (i : Nat) : gi (joinL xs ys) i = max (gi xs i) (gi ys i) := by
  by_cases h : i < max xs.length ys.length
  · rw [gi_lt (by rw [joinL_length]; exact h)]; simp [joinL]
  · rw [gi_ge (by rw [joinL_length]; omega), gi_ge (by omega), gi_ge (by omega)]; rfl
theorem leqB_of_lt {xs ys : List Int} (h : ∀ i, i < max xs.length ys.length → gi xs i ≤ gi ys i) : leqB xs ys = true := by
  simp only [leqB, List.all_eq_true, List.mem_range, decide_eq_true_eq]; exact h
theorem leqB_true {xs ys : List Int} : leqB xs ys = true ↔ ∀ i, gi xs i ≤ gi ys i := by
  refine ⟨fun h i => ?_, fun h => leqB_of_lt fun i _ => h i⟩
  by_cases hi : i < max xs.length ys.length
  · simp only [leqB, List.all_eq_true, List.mem_range, decide_eq_true_eq] at h; exact h i hi
  · rw [gi_ge (by omega), gi_ge (by omega)]; exact Int.le_refl _
theorem leqB_false {xs ys : List Int} {i : Nat} (h : gi ys i < gi xs i) : leqB xs ys = false := by
  rw [Bool.eq_false_iff]; intro h2; have := leqB_true.1 h2 i; omega
theorem joinL_take_succ (xs ys : List Int) (k : Nat) (h : k < max xs.length ys.length) : (joinL xs ys).take (k + 1) = (joinL xs ys).take k ++ [max (gi xs k) (gi ys k)] := by
  rw [List.take_succ_eq_append_getElem (by rw [joinL_length]; exact h)]
  congr 2
  simp [joinL]
theorem joinL_take_all (xs ys : List Int) : (joinL xs ys).take (max xs.length ys.length) = joinL xs ys := by
  rw [List.take_of_length_le]; rw [joinL_length]; exact Nat.le_refl _

theorem padTo_length (xs : List Int) (t : Nat) : (padTo xs t).length = max xs.length (t + 1) := by simp [padTo]; omega
theorem gi_append_zeros (xs : List Int) (n i : Nat) : gi (xs ++ List.replicate n 0) i = gi xs i := by
  by_cases h : i < xs.length
  · rw [gi_lt (by simp; omega), gi_lt h, List.getElem_append_left]
  · rw [gi_ge (xs := xs) (by omega)]
    by_cases h2 : i < xs.length + n
    · rw [gi_lt (by simp; omega), List.getElem_append_right (by omega)]; simp
    · exact gi_ge (by simp; omega)
theorem gi_padTo (xs : List Int) (t i : Nat) : gi (padTo xs t) i = gi xs i := gi_append_zeros _ _ _
theorem gi_set (xs : List Int) (t : Nat) (v : Int) (i : Nat) (h : t < xs.length) : gi (xs.set t v) i = if i = t then v else gi xs i := by
  by_cases hi : i < xs.length
  · rw [gi_lt (by simpa using hi), List.getElem_set]
    by_cases e : t = i
    · subst e; simp
    · rw [if_neg e, if_neg (fun h => e h.symm), gi_lt hi]
  · rw [gi_ge (by simp; omega), gi_ge (xs := xs) (by omega), if_neg (by omega)]
theorem tickAt_length (xs : List Int) (t : Nat) : (tickAt xs t).length = max xs.length (t + 1) := by
  unfold tickAt; split <;> simp [padTo_length]
theorem gi_tickAt (xs : List Int) (t i : Nat) : gi (tickAt xs t) i = if i = t ∧ gi xs t < 9223372036854775807 then gi xs t + 1 else gi xs i := by
  unfold tickAt
  rw [gi_padTo]
  split
  · rename_i h
    rw [gi_set _ _ _ _ (by rw [padTo_length]; omega), gi_padTo]
    by_cases e : i = t <;> simp [e, h]
  · rename_i h
    rw [gi_padTo]
    by_cases e : i = t
    · subst e; simp [h]
    · simp [e]
theorem tickL_in {xs : List Int} {t : Int} (h0 : 0 ≤ t) (h1 : t ≤ 63) : tickL xs t = tickAt xs t.toNat := by unfold tickL; rw [if_neg (by omega)]
theorem tickL_out {xs : List Int} {t : Int} (h : t < 0 ∨ 63 < t) : tickL xs t = xs := by unfold tickL; rw [if_pos h]
theorem wf64_join {xs ys : List Int} (hx : wf64 xs) (hy : wf64 ys) : wf64 (joinL xs ys) :=
  wf64_of_gi fun i => by rw [gi_joinL]; have := hx.gi i; have := hy.gi i; unfold in64 at *; omega
theorem wf64_tickL {xs : List Int} (hx : wf64 xs) (t : Int) : wf64 (tickL xs t) := by
  unfold tickL
  split
  · exact hx
  · refine wf64_of_gi fun i => ?_
    rw [gi_tickAt]
    have h1 := hx.gi t.toNat
    have h2 := hx.gi i
    unfold in64 at *
    split <;> omega
theorem take_all {α : Type} (l : List α) : l.take l.length = l := List.take_length
end Go.Am
