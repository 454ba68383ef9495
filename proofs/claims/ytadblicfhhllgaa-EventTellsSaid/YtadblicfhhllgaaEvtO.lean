/-
 Events: a frame that is cut. Plain mathematics. No condition.
-/
import Derived.Test.YtadblicfhhllgaaEvtM
set_option linter.unusedVariables false
set_option linter.unusedSimpArgs false
namespace Go.Pe
open Go Go.Am Go.RowKit

theorem Neu : ∀ (f n k : Nat), k < (varF f n).length → ∀ c ∈ (varF f n).take k, 128 ≤ c.toNat := by
 intro f
 induction f with
 | zero =>
   intro n k hk c hc
   unfold varF at hk hc
   simp only [List.length_singleton] at hk
   have : k = 0 := by omega
   subst this
   simp at hc
 | succ f ih =>
   intro n k hk c hc
   unfold varF at hk hc
   split at hk
   ·rename_i h
    rw [if_pos h] at hc
    simp only [List.length_singleton] at hk
    have : k = 0 := by omega
    subst this
    simp at hc
   ·rename_i h
    rw [if_neg h] at hc
    cases k with
    | zero => simp at hc
    | succ k =>
      simp only [List.length_cons] at hk
      rw [List.take_succ_cons] at hc
      rcases List.mem_cons.1 hc with rfl | hc
      ·rw [UInt8.toNat_ofNat']; omega
      ·exact ih _ k (by omega) c hc
end Go.Pe
