/-
 Words: the document's answer, as plain functions, and that it is the program's. No condition.
-/
import Derived.Test.YtaepgkghgcchnaaDoorWordsS
set_option linter.unusedVariables false
set_option linter.unusedSimpArgs false
namespace Go.Pe
open Go Go.Am Go.RowKit

theorem NdN {p : UInt8 → Bool} (h : ((List.range 256).all fun i => p (UInt8.ofNat i)) = true) (c : UInt8) : p c = true := by
 rw [List.all_eq_true] at h
 have := h c.toNat (by have := c.toNat_lt; simp; omega)
 simpa using this
end Go.Pe
