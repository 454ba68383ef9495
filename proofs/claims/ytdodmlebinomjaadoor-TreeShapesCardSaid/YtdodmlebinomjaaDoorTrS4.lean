/-
 TreeShapes: the operation 5, by the kernel. No condition. (Printed by gen_shapes.py.)
-/
import Derived.Test.YtdodmlebinomjaaDoorTreD
set_option linter.unusedVariables false
set_option maxRecDepth 100000
namespace Go.Pe
open Go

theorem NoQ : (List.range 8).map (Nab 4 0) = (List.range 8).map (Nac 4 0) := by kernel_rfl
theorem NoR : (List.range 8).map (Nab 4 1) = (List.range 8).map (Nac 4 1) := by kernel_rfl
theorem NoS : (List.range 8).map (Nab 4 2) = (List.range 8).map (Nac 4 2) := by kernel_rfl
theorem NoT : (List.range 8).map (Nab 4 3) = (List.range 8).map (Nac 4 3) := by kernel_rfl
theorem NoU : (List.range 8).map (Nab 4 4) = (List.range 8).map (Nac 4 4) := by kernel_rfl
theorem NoV : (List.range 8).map (Nab 4 5) = (List.range 8).map (Nac 4 5) := by kernel_rfl
theorem NoW : (List.range 8).map (Nab 4 6) = (List.range 8).map (Nac 4 6) := by kernel_rfl
theorem NoX : (List.range 8).map (Nab 4 7) = (List.range 8).map (Nac 4 7) := by kernel_rfl
theorem NoY : (List.range 8).map (Nab 4 8) = (List.range 8).map (Nac 4 8) := by kernel_rfl
theorem NoZ : (List.range 8).map (Nab 4 9) = (List.range 8).map (Nac 4 9) := by kernel_rfl
theorem NlP : (List.range 8).map (Nab 4 10) = (List.range 8).map (Nac 4 10) := by kernel_rfl
theorem NlQ : (List.range 8).map (Nab 4 11) = (List.range 8).map (Nac 4 11) := by kernel_rfl
theorem NlR : (List.range 8).map (Nab 4 12) = (List.range 8).map (Nac 4 12) := by kernel_rfl
theorem NlS : (List.range 8).map (Nab 4 13) = (List.range 8).map (Nac 4 13) := by kernel_rfl
theorem NlT : (List.range 8).map (Nab 4 14) = (List.range 8).map (Nac 4 14) := by kernel_rfl
theorem NlU : (List.range 8).map (Nab 4 15) = (List.range 8).map (Nac 4 15) := by kernel_rfl
theorem NlV : (List.range 8).map (Nab 4 16) = (List.range 8).map (Nac 4 16) := by kernel_rfl
theorem NlW : (List.range 8).map (Nab 4 17) = (List.range 8).map (Nac 4 17) := by kernel_rfl
theorem NlX : (List.range 8).map (Nab 4 18) = (List.range 8).map (Nac 4 18) := by kernel_rfl
theorem NlY : (List.range 8).map (Nab 4 19) = (List.range 8).map (Nac 4 19) := by kernel_rfl
theorem NlZ : (List.range 8).map (Nab 4 20) = (List.range 8).map (Nac 4 20) := by kernel_rfl
end Go.Pe
