/-
 TreeShapes: the operation 10, by the kernel. No condition. (Printed by gen_shapes.py.)
-/
import Derived.Test.YtdodmlebinomjaaDoorTreD
set_option linter.unusedVariables false
set_option maxRecDepth 100000
namespace Go.Pe
open Go

theorem NpE : (List.range 8).map (Nab 9 0) = (List.range 8).map (Nac 9 0) := by kernel_rfl
theorem NpF : (List.range 8).map (Nab 9 1) = (List.range 8).map (Nac 9 1) := by kernel_rfl
theorem NpG : (List.range 8).map (Nab 9 2) = (List.range 8).map (Nac 9 2) := by kernel_rfl
theorem NpH : (List.range 8).map (Nab 9 3) = (List.range 8).map (Nac 9 3) := by kernel_rfl
theorem NpI : (List.range 8).map (Nab 9 4) = (List.range 8).map (Nac 9 4) := by kernel_rfl
theorem NpJ : (List.range 8).map (Nab 9 5) = (List.range 8).map (Nac 9 5) := by kernel_rfl
theorem NpK : (List.range 8).map (Nab 9 6) = (List.range 8).map (Nac 9 6) := by kernel_rfl
theorem NpL : (List.range 8).map (Nab 9 7) = (List.range 8).map (Nac 9 7) := by kernel_rfl
theorem NpM : (List.range 8).map (Nab 9 8) = (List.range 8).map (Nac 9 8) := by kernel_rfl
theorem NpN : (List.range 8).map (Nab 9 9) = (List.range 8).map (Nac 9 9) := by kernel_rfl
theorem NmI : (List.range 8).map (Nab 9 10) = (List.range 8).map (Nac 9 10) := by kernel_rfl
theorem NmJ : (List.range 8).map (Nab 9 11) = (List.range 8).map (Nac 9 11) := by kernel_rfl
theorem NmK : (List.range 8).map (Nab 9 12) = (List.range 8).map (Nac 9 12) := by kernel_rfl
theorem NmL : (List.range 8).map (Nab 9 13) = (List.range 8).map (Nac 9 13) := by kernel_rfl
theorem NmM : (List.range 8).map (Nab 9 14) = (List.range 8).map (Nac 9 14) := by kernel_rfl
theorem NmN : (List.range 8).map (Nab 9 15) = (List.range 8).map (Nac 9 15) := by kernel_rfl
theorem NmO : (List.range 8).map (Nab 9 16) = (List.range 8).map (Nac 9 16) := by kernel_rfl
theorem NmP : (List.range 8).map (Nab 9 17) = (List.range 8).map (Nac 9 17) := by kernel_rfl
theorem NmQ : (List.range 8).map (Nab 9 18) = (List.range 8).map (Nac 9 18) := by kernel_rfl
theorem NmR : (List.range 8).map (Nab 9 19) = (List.range 8).map (Nac 9 19) := by kernel_rfl
theorem NmS : (List.range 8).map (Nab 9 20) = (List.range 8).map (Nac 9 20) := by kernel_rfl
end Go.Pe
