/-
 TreeShapes: the operation 15, by the kernel. No condition. (Printed by gen_shapes.py.)
-/
import Derived.Test.YtdodmlebinomjaaDoorTreD
set_option linter.unusedVariables false
set_option maxRecDepth 100000
namespace Go.Pe
open Go

theorem NjQ : (List.range 8).map (Nab 14 0) = (List.range 8).map (Nac 14 0) := by kernel_rfl
theorem NjR : (List.range 8).map (Nab 14 1) = (List.range 8).map (Nac 14 1) := by kernel_rfl
theorem NjS : (List.range 8).map (Nab 14 2) = (List.range 8).map (Nac 14 2) := by kernel_rfl
theorem NjT : (List.range 8).map (Nab 14 3) = (List.range 8).map (Nac 14 3) := by kernel_rfl
theorem NjU : (List.range 8).map (Nab 14 4) = (List.range 8).map (Nac 14 4) := by kernel_rfl
theorem NjV : (List.range 8).map (Nab 14 5) = (List.range 8).map (Nac 14 5) := by kernel_rfl
theorem NjW : (List.range 8).map (Nab 14 6) = (List.range 8).map (Nac 14 6) := by kernel_rfl
theorem NjX : (List.range 8).map (Nab 14 7) = (List.range 8).map (Nac 14 7) := by kernel_rfl
theorem NjY : (List.range 8).map (Nab 14 8) = (List.range 8).map (Nac 14 8) := by kernel_rfl
theorem NjZ : (List.range 8).map (Nab 14 9) = (List.range 8).map (Nac 14 9) := by kernel_rfl
theorem NgA : (List.range 8).map (Nab 14 10) = (List.range 8).map (Nac 14 10) := by kernel_rfl
theorem NgB : (List.range 8).map (Nab 14 11) = (List.range 8).map (Nac 14 11) := by kernel_rfl
theorem NgC : (List.range 8).map (Nab 14 12) = (List.range 8).map (Nac 14 12) := by kernel_rfl
theorem NgD : (List.range 8).map (Nab 14 13) = (List.range 8).map (Nac 14 13) := by kernel_rfl
theorem NgE : (List.range 8).map (Nab 14 14) = (List.range 8).map (Nac 14 14) := by kernel_rfl
theorem NgF : (List.range 8).map (Nab 14 15) = (List.range 8).map (Nac 14 15) := by kernel_rfl
theorem NgG : (List.range 8).map (Nab 14 16) = (List.range 8).map (Nac 14 16) := by kernel_rfl
theorem NgH : (List.range 8).map (Nab 14 17) = (List.range 8).map (Nac 14 17) := by kernel_rfl
theorem NgI : (List.range 8).map (Nab 14 18) = (List.range 8).map (Nac 14 18) := by kernel_rfl
theorem NgJ : (List.range 8).map (Nab 14 19) = (List.range 8).map (Nac 14 19) := by kernel_rfl
theorem NgK : (List.range 8).map (Nab 14 20) = (List.range 8).map (Nac 14 20) := by kernel_rfl
end Go.Pe
