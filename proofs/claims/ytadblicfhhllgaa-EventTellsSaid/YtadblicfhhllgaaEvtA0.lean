/-
 Events: bytes apart: plain mathematics. No condition.
-/
import Derived.Test.YtadblicfhhllgaaEvtS2
import Derived.Test.YtadblicfhhllgaaEvtG
set_option linter.unusedVariables false
set_option linter.unusedSimpArgs false
namespace Go.Pe
open Go Go.Am Go.RowKit

theorem Nmp (x : Int) : Nc3 (IntKind.i64.wrap x) := by
 unfold Nc3
 rw [IntKind.wrap_i64]
 omega
theorem Nlr (x0 x1 x2 x3 x4 : Bool) : eqC (some x0) (eqC (some x1) (eqC (some x2) (eqC (some x3) (eqC (some x4) (some true))))) = some (x0 && x1 && x2 && x3 && x4) := by
 cases x0 <;> cases x1 <;> cases x2 <;> cases x3 <;> cases x4 <;> rfl
theorem No9 {x : Int} (h : (Lit.int .u8 x).wf = true) : 0 ≤ x ∧ x < 256 := by
 simp [Lit.wf, IntKind.min, IntKind.max, IntKind.signed, IntKind.bits] at h
 omega
theorem Ngo {x : Int} (h : (Lit.int .i64 x).wf = true) : Nc3 x := by
 simp [Lit.wf, IntKind.min, IntKind.max, IntKind.signed, IntKind.bits] at h
 unfold Nc3
 omega
end Go.Pe
