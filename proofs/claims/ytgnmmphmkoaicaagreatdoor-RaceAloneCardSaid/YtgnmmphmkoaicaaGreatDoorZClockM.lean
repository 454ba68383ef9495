/-
 The plain mathematics of clocks: lists of numbers, read as 0 behind their end. No condition; nothing of the program.
-/
import Derived.Test.YtgnmmphmkoaicaaGreatDoorZLib
namespace Go.Am

def Nbl (xs ys : List Int) : List Int:=(List.range (max xs.length ys.length)).map fun i => max (gi xs i) (gi ys i)
def Nc1 (xs : List Int) (t : Nat) : List Int:=xs ++ List.replicate (t + 1 - xs.length) 0
def NcK (xs : List Int) (t : Nat) : List Int:=if gi (Nc1 xs t) t < 9223372036854775807 then (Nc1 xs t).set t (gi (Nc1 xs t) t + 1) else Nc1 xs t
def Nce (xs : List Int) (t : Int) : List Int:=if t < 0 ∨ 63 < t then xs else NcK xs t.toNat

theorem Nbj (xs ys : List Int) : (Nbl xs ys).length = max xs.length ys.length:=by simp [Nbl]
theorem NkK (xs ys : List Int) (i : Nat) : gi (Nbl xs ys) i = max (gi xs i) (gi ys i):=by
 by_cases h : i < max xs.length ys.length
 ·rw [Nd8 (by rw [Nbj]; exact h)]; simp [Nbl]
 ·rw [Ndd (by rw [Nbj]; omega),Ndd (by omega),Ndd (by omega)]; rfl
theorem Nec (xs ys : List Int) (k : Nat) (h : k < max xs.length ys.length) : (Nbl xs ys).take (k + 1) = (Nbl xs ys).take k ++ [max (gi xs k) (gi ys k)]:=by
 rw [List.take_succ_eq_append_getElem (by rw [Nbj]; exact h)]
 congr 2
 simp [Nbl]
theorem NeE (xs ys : List Int) : (Nbl xs ys).take (max xs.length ys.length) = Nbl xs ys:=by
 rw [List.take_of_length_le]; rw [Nbj]; exact Nat.le_refl _

theorem Ndw (xs : List Int) (t : Nat) : (Nc1 xs t).length = max xs.length (t + 1):=by simp [Nc1]; omega
theorem Nd7 (xs : List Int) (n i : Nat) : gi (xs ++ List.replicate n 0) i = gi xs i:=by
 by_cases h : i < xs.length
 ·rw [Nd8 (by simp; omega),Nd8 h,List.getElem_append_left]
 ·rw [Ndd (xs:=xs) (by omega)]
  by_cases h2 : i < xs.length + n
  ·rw [Nd8 (by simp; omega),List.getElem_append_right (by omega)]; simp
  ·exact Ndd (by simp; omega)
theorem NdE (xs : List Int) (t i : Nat) : gi (Nc1 xs t) i = gi xs i:=Nd7 _ _ _
theorem NnS (xs : List Int) (t : Nat) (v : Int) (i : Nat) (h : t < xs.length) : gi (xs.set t v) i = if i = t then v else gi xs i:=by
 by_cases hi : i < xs.length
 ·rw [Nd8 (by simpa using hi),List.getElem_set]
  by_cases e : t = i
  ·subst e; simp
  ·rw [if_neg e,if_neg (fun h => e h.symm),Nd8 hi]
 ·rw [Ndd (by simp; omega),Ndd (xs:=xs) (by omega),if_neg (by omega)]
theorem Nc5 (xs : List Int) (t : Nat) : (NcK xs t).length = max xs.length (t + 1):=by
 unfold NcK; split <;> simp [Ndw]
theorem Ni2 (xs : List Int) (t i : Nat) : gi (NcK xs t) i = if i = t ∧ gi xs t < 9223372036854775807 then gi xs t + 1 else gi xs i:=by
 unfold NcK
 rw [NdE]
 split
 ·rename_i h
  rw [NnS _ _ _ _ (by rw [Ndw]; omega),NdE]
  by_cases e : i = t <;> simp [e,h]
 ·rename_i h
  rw [NdE]
  by_cases e : i = t
  ·subst e; simp [h]
  ·simp [e]
theorem NdM {xs : List Int} {t : Int} (h0 : 0 ≤ t) (h1 : t ≤ 63) : Nce xs t = NcK xs t.toNat:=by unfold Nce; rw [if_neg (by omega)]
theorem NjW {xs : List Int} {t : Int} (h : t < 0 ∨ 63 < t) : Nce xs t = xs:=by unfold Nce; rw [if_pos h]
end Go.Am
