/-
 The plain mathematics of clocks: lists of numbers, read as 0 behind their end. No condition; nothing of the program.
-/
import Derived.Test.YtgnmmphmkoaicaaGreatDoorZLib
namespace Go.Am

def Nbq (xs ys:List Int):List Int:=(List.range (max xs.length ys.length)).map fun i => max (gi xs i) (gi ys i)
def Nc0 (xs:List Int) (t:Nat):List Int:=xs ++ List.replicate (t + 1 - xs.length) 0
def NcK (xs:List Int) (t:Nat):List Int:=if gi (Nc0 xs t) t < 9223372036854775807 then (Nc0 xs t).set t (gi (Nc0 xs t) t + 1) else Nc0 xs t
def NbQ (xs:List Int) (t:Int):List Int:=if t < 0 ∨ 63 < t then xs else NcK xs t.toNat

theorem Nbr (xs ys:List Int):(Nbq xs ys).length = max xs.length ys.length:=by simp [Nbq]
theorem NkS (xs ys:List Int) (i:Nat):gi (Nbq xs ys) i = max (gi xs i) (gi ys i):=by
 by_cases h:i < max xs.length ys.length
 ·rw [Nea (by rw [Nbr]; exact h)]; simp [Nbq]
 ·rw [Nde (by rw [Nbr]; omega),Nde (by omega),Nde (by omega)]; rfl
theorem Nee (xs ys:List Int) (k:Nat) (h:k < max xs.length ys.length):(Nbq xs ys).take (k + 1) = (Nbq xs ys).take k ++ [max (gi xs k) (gi ys k)]:=by
 rw [List.take_succ_eq_append_getElem (by rw [Nbr]; exact h)]
 congr 2
 simp [Nbq]
theorem NeL (xs ys:List Int):(Nbq xs ys).take (max xs.length ys.length) = Nbq xs ys:=by
 rw [List.take_of_length_le]; rw [Nbr]; exact Nat.le_refl _

theorem Ndx (xs:List Int) (t:Nat):(Nc0 xs t).length = max xs.length (t + 1):=by simp [Nc0]; omega
theorem Nd9 (xs:List Int) (n i:Nat):gi (xs ++ List.replicate n 0) i = gi xs i:=by
 by_cases h:i < xs.length
 ·rw [Nea (by simp; omega),Nea h,List.getElem_append_left]
 ·rw [Nde (xs:=xs) (by omega)]
  by_cases h2:i < xs.length + n
  ·rw [Nea (by simp; omega),List.getElem_append_right (by omega)]; simp
  ·exact Nde (by simp; omega)
theorem NdH (xs:List Int) (t i:Nat):gi (Nc0 xs t) i = gi xs i:=Nd9 _ _ _
theorem Nn6 (xs:List Int) (t:Nat) (v:Int) (i:Nat) (h:t < xs.length):gi (xs.set t v) i = if i = t then v else gi xs i:=by
 by_cases hi:i < xs.length
 ·rw [Nea (by simpa using hi),List.getElem_set]
  by_cases e:t = i
  ·subst e; simp
  ·rw [if_neg e,if_neg (fun h => e h.symm),Nea hi]
 ·rw [Nde (by simp; omega),Nde (xs:=xs) (by omega),if_neg (by omega)]
theorem Nc5 (xs:List Int) (t:Nat):(NcK xs t).length = max xs.length (t + 1):=by
 unfold NcK; split <;> simp [Ndx]
theorem Nf2 (xs:List Int) (t i:Nat):gi (NcK xs t) i = if i = t ∧ gi xs t < 9223372036854775807 then gi xs t + 1 else gi xs i:=by
 unfold NcK
 rw [NdH]
 split
 ·rename_i h
  rw [Nn6 _ _ _ _ (by rw [Ndx]; omega),NdH]
  by_cases e:i = t <;> simp [e,h]
 ·rename_i h
  rw [NdH]
  by_cases e:i = t
  ·subst e; simp [h]
  ·simp [e]
theorem Nc6 {xs:List Int} {t:Int} (h0:0 ≤ t) (h1:t ≤ 63):NbQ xs t = NcK xs t.toNat:=by unfold NbQ; rw [if_neg (by omega)]
theorem Nj7 {xs:List Int} {t:Int} (h:t < 0 ∨ 63 < t):NbQ xs t = xs:=by unfold NbQ; rw [if_pos h]
end Go.Am
