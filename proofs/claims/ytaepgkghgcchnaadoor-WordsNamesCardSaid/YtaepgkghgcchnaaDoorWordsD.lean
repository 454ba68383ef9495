/-
 Words: the document's answer, as plain functions, and that it is the program's. No condition.
-/
import Derived.Test.YtaepgkghgcchnaaDoorWordsS
set_option linter.unusedVariables false
set_option linter.unusedSimpArgs false
namespace Go.Pe
open Go Go.Am Go.RowKit

def Nj6 : List UInt8 := [97, 98, 99, 100, 101, 102, 103, 104, 105, 106, 107, 108, 109, 110, 111, 112, 113, 114, 115, 116, 117, 118, 119, 120, 121, 122, 65, 66, 67, 68, 69, 70, 71, 72, 73, 74, 75, 76, 77, 78, 79, 80, 81, 82, 83, 84, 85, 86, 87, 88, 89, 90, 95, 48, 49, 50, 51, 52, 53, 54, 55, 56, 57]
theorem NcL {p : UInt8 → Bool} (h : ((List.range 256).all fun i => p (UInt8.ofNat i)) = true) (c : UInt8) : p c = true := by
 rw [List.all_eq_true] at h
 have := h c.toNat (by have := c.toNat_lt; simp; omega)
 simpa using this
def keyWs : List (List UInt8) := [[97, 99, 113, 117, 105, 114, 101], [97, 100, 100], [97, 114, 114, 105, 118, 101], [98, 97, 114, 114, 105, 101, 114], [98, 114, 111, 97, 100, 99, 97, 115, 116], [99, 111, 110, 100], [100, 111], [100, 111, 110, 101], [101, 108, 115, 101], [105, 102], [108, 111, 99, 107], [108, 111, 99, 107, 102, 111, 114], [108, 111, 111, 112], [109, 117, 116, 101, 120], [111, 110, 99, 101], [112, 117, 116], [113, 117, 101, 117, 101], [114, 101, 97, 100], [114, 101, 108, 101, 97, 115, 101], [114, 108, 111, 99, 107], [114, 117, 110, 108, 111, 99, 107], [114, 119, 108, 111, 99, 107], [115, 101, 109], [115, 101, 116], [115, 105, 103, 110, 97, 108], [116, 97, 107, 101], [116, 104, 114, 101, 97, 100], [116, 114, 121, 97, 99, 113, 117, 105, 114, 101], [116, 114, 121, 108, 111, 99, 107], [117, 110, 108, 111, 99, 107], [118, 97, 114], [119, 97, 105, 116], [119, 97, 105, 116, 102, 111, 114], [119, 97, 105, 116, 111, 110], [119, 108, 111, 99, 107], [119, 114, 105, 116, 101], [119, 117, 110, 108, 111, 99, 107]]
def NjX (s : List UInt8) : Bool := keyWs.any (· == s)
def Nfp : List (List UInt8) → List UInt8
 | [] => []
 | w :: r => w ++ 32 :: Nfp r
theorem Nfq : NaS = 32 :: Nfp keyWs := by kernel_rfl
theorem Ne8 : ∀ (s w rest : List UInt8), 32 ∉ s → 32 ∉ w → (s ++ [32]).isPrefixOf (w ++ 32 :: rest) = (w == s)
 | [], [], rest, _, _ => by simp [List.isPrefixOf]
 | [], c :: w, rest, _, h => by
   have : c ≠ 32 := fun e => h (by simp [e])
   have : (32 == c) = false := by simpa using fun e => this e.symm
   simp [List.isPrefixOf, this]
 | c :: s, [], rest, h, _ => by
   have : c ≠ 32 := fun e => h (by simp [e])
   simp [List.isPrefixOf, this]
 | c :: s, d :: w, rest, h, h2 => by
   have ih := Ne8 s w rest (fun e => h (List.mem_cons_of_mem _ e)) (fun e => h2 (List.mem_cons_of_mem _ e))
   simp only [List.cons_append, List.isPrefixOf, ih]
   by_cases e : c = d
   ·subst e; simp
   ·have e' : ¬ d = c := fun h => e h.symm
    have : (c == d) = false := by simpa using e
    simp [this, e']
theorem Ne2 (sub : List UInt8) : ∀ (w rest : List UInt8), 32 ∉ w → Nc2 (32 :: sub) (w ++ rest) = Nc2 (32 :: sub) rest
 | [], _, _ => rfl
 | c :: w, rest, h => by
   have hc : (32 == c) = false := by
    have : c ≠ 32 := fun e => h (by simp [e])
    simpa using fun e => this e.symm
   rw [List.cons_append, Nc2]
   simp only [List.isPrefixOf, hc, Bool.false_and, Bool.false_or]
   exact Ne2 sub w rest (fun e => h (List.mem_cons_of_mem _ e))
theorem Ne1 (s : List UInt8) (hs : 32 ∉ s) : ∀ ws : List (List UInt8), (∀ w ∈ ws, 32 ∉ w) → Nc2 (32 :: s ++ [32]) (32 :: Nfp ws) = ws.any (· == s)
 | [], _ => by
   have : (s ++ [32]).isPrefixOf ([] : List UInt8) = false := by cases s <;> rfl
   simp only [Nfp, List.cons_append, Nc2, List.isPrefixOf, this]
   simp
 | w :: ws, h => by
   have hw := h w List.mem_cons_self
   rw [List.cons_append, Nc2]
   simp only [List.isPrefixOf, Nfp, Ne8 s w (Nfp ws) hs hw, List.any_cons]
   rw [Ne2 _ w _ hw]
   have := Ne1 s hs ws (fun v hv => h v (List.mem_cons_of_mem _ hv))
   rw [List.cons_append] at this
   rw [this]; simp
theorem Njp (s : List UInt8) (h : 32 ∉ s) : Nc2 (32 :: s ++ [32]) NaS = NjX s := by
 rw [Nfq]
 refine Ne1 s h keyWs ?_
 have : (keyWs.all fun w => !w.contains 32) = true := by decide
 intro w hw
 rw [List.all_eq_true] at this
 simpa using this w hw
end Go.Pe
