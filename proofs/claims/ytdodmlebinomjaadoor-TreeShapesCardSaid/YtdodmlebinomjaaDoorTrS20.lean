/-
 TreeShapes: the operation 21, by the kernel. No condition. (Printed by gen_shapes.py.)
-/
import Derived.Test.YtdodmlebinomjaaDoorTreD
set_option linter.unusedVariables false
set_option maxRecDepth 100000
namespace Go.Pe
open Go

theorem NkZ : (List.range 8).map (Nab 20 0) = (List.range 8).map (Nac 20 0) := by kernel_rfl
theorem Nk0 : (List.range 8).map (Nab 20 1) = (List.range 8).map (Nac 20 1) := by kernel_rfl
theorem Nk1 : (List.range 8).map (Nab 20 2) = (List.range 8).map (Nac 20 2) := by kernel_rfl
theorem Nk2 : (List.range 8).map (Nab 20 3) = (List.range 8).map (Nac 20 3) := by kernel_rfl
theorem Nk3 : (List.range 8).map (Nab 20 4) = (List.range 8).map (Nac 20 4) := by kernel_rfl
theorem Nk4 : (List.range 8).map (Nab 20 5) = (List.range 8).map (Nac 20 5) := by kernel_rfl
theorem Nk5 : (List.range 8).map (Nab 20 6) = (List.range 8).map (Nac 20 6) := by kernel_rfl
theorem Nk6 : (List.range 8).map (Nab 20 7) = (List.range 8).map (Nac 20 7) := by kernel_rfl
theorem Nk7 : (List.range 8).map (Nab 20 8) = (List.range 8).map (Nac 20 8) := by kernel_rfl
theorem Nk8 : (List.range 8).map (Nab 20 9) = (List.range 8).map (Nac 20 9) := by kernel_rfl
theorem NhE : (List.range 8).map (Nab 20 10) = (List.range 8).map (Nac 20 10) := by kernel_rfl
theorem NhF : (List.range 8).map (Nab 20 11) = (List.range 8).map (Nac 20 11) := by kernel_rfl
theorem NhG : (List.range 8).map (Nab 20 12) = (List.range 8).map (Nac 20 12) := by kernel_rfl
theorem NhH : (List.range 8).map (Nab 20 13) = (List.range 8).map (Nac 20 13) := by kernel_rfl
theorem NhI : (List.range 8).map (Nab 20 14) = (List.range 8).map (Nac 20 14) := by kernel_rfl
theorem NhJ : (List.range 8).map (Nab 20 15) = (List.range 8).map (Nac 20 15) := by kernel_rfl
theorem NhK : (List.range 8).map (Nab 20 16) = (List.range 8).map (Nac 20 16) := by kernel_rfl
theorem NhL : (List.range 8).map (Nab 20 17) = (List.range 8).map (Nac 20 17) := by kernel_rfl
theorem NhM : (List.range 8).map (Nab 20 18) = (List.range 8).map (Nac 20 18) := by kernel_rfl
theorem NhN : (List.range 8).map (Nab 20 19) = (List.range 8).map (Nac 20 19) := by kernel_rfl
theorem NhO : (List.range 8).map (Nab 20 20) = (List.range 8).map (Nac 20 20) := by kernel_rfl
end Go.Pe
