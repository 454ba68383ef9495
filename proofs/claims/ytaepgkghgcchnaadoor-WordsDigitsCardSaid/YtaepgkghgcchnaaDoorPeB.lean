/-
 Runs by the kernel within runs over plain data. No condition; nothing of the program.
-/
import Derived.Test.YtaepgkghgcchnaaDoorPe9
set_option linter.unusedVariables false
set_option linter.unusedSimpArgs false
namespace Go.Pe
open Go

theorem NiC (cfg : Cfg) (callE : CallE) (n : Nat) (a b c : MCode) (x : Now) (Q : MExit → Now → Prop) : WC cfg callE n (.seq a (.seq b c)) x Q ↔ WC cfg callE n (.seq (.seq a b) c) x Q := by
 rw [Z0, Z0, Z0]
 constructor
 ·intro h
  refine h.mono ?_
  intro e x' hq
  cases e with
  | nrm => exact (Z0 ..).1 hq
  | ex id => exact hq
  | ret => exact hq
 ·intro h
  refine h.mono ?_
  intro e x' hq
  cases e with
  | nrm => exact (Z0 ..).2 hq
  | ex id => exact hq
  | ret => exact hq
end Go.Pe
