/-
 TreeShapes: the operation 13, by the kernel. No condition. (Printed by gen_shapes.py.)
-/
import Derived.Test.YtdodmlebinomjaaDoorTreD
set_option linter.unusedVariables false
set_option maxRecDepth 100000
namespace Go.Pe
open Go

theorem Njw : (List.range 8).map (Nab 12 0) = (List.range 8).map (Nac 12 0) := by kernel_rfl
theorem Njx : (List.range 8).map (Nab 12 1) = (List.range 8).map (Nac 12 1) := by kernel_rfl
theorem Njy : (List.range 8).map (Nab 12 2) = (List.range 8).map (Nac 12 2) := by kernel_rfl
theorem Njz : (List.range 8).map (Nab 12 3) = (List.range 8).map (Nac 12 3) := by kernel_rfl
theorem NjA : (List.range 8).map (Nab 12 4) = (List.range 8).map (Nac 12 4) := by kernel_rfl
theorem NjB : (List.range 8).map (Nab 12 5) = (List.range 8).map (Nac 12 5) := by kernel_rfl
theorem NjC : (List.range 8).map (Nab 12 6) = (List.range 8).map (Nac 12 6) := by kernel_rfl
theorem NjD : (List.range 8).map (Nab 12 7) = (List.range 8).map (Nac 12 7) := by kernel_rfl
theorem NjE : (List.range 8).map (Nab 12 8) = (List.range 8).map (Nac 12 8) := by kernel_rfl
theorem NjF : (List.range 8).map (Nab 12 9) = (List.range 8).map (Nac 12 9) := by kernel_rfl
theorem Nge : (List.range 8).map (Nab 12 10) = (List.range 8).map (Nac 12 10) := by kernel_rfl
theorem Ngf : (List.range 8).map (Nab 12 11) = (List.range 8).map (Nac 12 11) := by kernel_rfl
theorem Ngg : (List.range 8).map (Nab 12 12) = (List.range 8).map (Nac 12 12) := by kernel_rfl
theorem Ngh : (List.range 8).map (Nab 12 13) = (List.range 8).map (Nac 12 13) := by kernel_rfl
theorem Ngi : (List.range 8).map (Nab 12 14) = (List.range 8).map (Nac 12 14) := by kernel_rfl
theorem Ngj : (List.range 8).map (Nab 12 15) = (List.range 8).map (Nac 12 15) := by kernel_rfl
theorem Ngk : (List.range 8).map (Nab 12 16) = (List.range 8).map (Nac 12 16) := by kernel_rfl
theorem Ngl : (List.range 8).map (Nab 12 17) = (List.range 8).map (Nac 12 17) := by kernel_rfl
theorem Ngm : (List.range 8).map (Nab 12 18) = (List.range 8).map (Nac 12 18) := by kernel_rfl
theorem Ngn : (List.range 8).map (Nab 12 19) = (List.range 8).map (Nac 12 19) := by kernel_rfl
theorem Ngo : (List.range 8).map (Nab 12 20) = (List.range 8).map (Nac 12 20) := by kernel_rfl
end Go.Pe
