/-
 TreeShapes: the operation 14, by the kernel. No condition. (Printed by gen_shapes.py.)
-/
import Derived.Test.YtdodmlebinomjaaDoorTreD
set_option linter.unusedVariables false
set_option maxRecDepth 100000
namespace Go.Pe
open Go

theorem NjG : (List.range 8).map (Nab 13 0) = (List.range 8).map (Nac 13 0) := by kernel_rfl
theorem NjH : (List.range 8).map (Nab 13 1) = (List.range 8).map (Nac 13 1) := by kernel_rfl
theorem NjI : (List.range 8).map (Nab 13 2) = (List.range 8).map (Nac 13 2) := by kernel_rfl
theorem NjJ : (List.range 8).map (Nab 13 3) = (List.range 8).map (Nac 13 3) := by kernel_rfl
theorem NjK : (List.range 8).map (Nab 13 4) = (List.range 8).map (Nac 13 4) := by kernel_rfl
theorem NjL : (List.range 8).map (Nab 13 5) = (List.range 8).map (Nac 13 5) := by kernel_rfl
theorem NjM : (List.range 8).map (Nab 13 6) = (List.range 8).map (Nac 13 6) := by kernel_rfl
theorem NjN : (List.range 8).map (Nab 13 7) = (List.range 8).map (Nac 13 7) := by kernel_rfl
theorem NjO : (List.range 8).map (Nab 13 8) = (List.range 8).map (Nac 13 8) := by kernel_rfl
theorem NjP : (List.range 8).map (Nab 13 9) = (List.range 8).map (Nac 13 9) := by kernel_rfl
theorem Ngp : (List.range 8).map (Nab 13 10) = (List.range 8).map (Nac 13 10) := by kernel_rfl
theorem Ngq : (List.range 8).map (Nab 13 11) = (List.range 8).map (Nac 13 11) := by kernel_rfl
theorem Ngr : (List.range 8).map (Nab 13 12) = (List.range 8).map (Nac 13 12) := by kernel_rfl
theorem Ngs : (List.range 8).map (Nab 13 13) = (List.range 8).map (Nac 13 13) := by kernel_rfl
theorem Ngt : (List.range 8).map (Nab 13 14) = (List.range 8).map (Nac 13 14) := by kernel_rfl
theorem Ngu : (List.range 8).map (Nab 13 15) = (List.range 8).map (Nac 13 15) := by kernel_rfl
theorem Ngv : (List.range 8).map (Nab 13 16) = (List.range 8).map (Nac 13 16) := by kernel_rfl
theorem Ngw : (List.range 8).map (Nab 13 17) = (List.range 8).map (Nac 13 17) := by kernel_rfl
theorem Ngx : (List.range 8).map (Nab 13 18) = (List.range 8).map (Nac 13 18) := by kernel_rfl
theorem Ngy : (List.range 8).map (Nab 13 19) = (List.range 8).map (Nac 13 19) := by kernel_rfl
theorem Ngz : (List.range 8).map (Nab 13 20) = (List.range 8).map (Nac 13 20) := by kernel_rfl
end Go.Pe
