/-
 TreeShapes: the operation 20, by the kernel. No condition. (Printed by gen_shapes.py.)
-/
import Derived.Test.YtdodmlebinomjaaDoorTreD
set_option linter.unusedVariables false
set_option maxRecDepth 100000
namespace Go.Pe
open Go

theorem NkE : (List.range 8).map (Nab 19 0) = (List.range 8).map (Nac 19 0) := by kernel_rfl
theorem NkF : (List.range 8).map (Nab 19 1) = (List.range 8).map (Nac 19 1) := by kernel_rfl
theorem NkG : (List.range 8).map (Nab 19 2) = (List.range 8).map (Nac 19 2) := by kernel_rfl
theorem NkH : (List.range 8).map (Nab 19 3) = (List.range 8).map (Nac 19 3) := by kernel_rfl
theorem NkI : (List.range 8).map (Nab 19 4) = (List.range 8).map (Nac 19 4) := by kernel_rfl
theorem NkJ : (List.range 8).map (Nab 19 5) = (List.range 8).map (Nac 19 5) := by kernel_rfl
theorem NkK : (List.range 8).map (Nab 19 6) = (List.range 8).map (Nac 19 6) := by kernel_rfl
theorem NkL : (List.range 8).map (Nab 19 7) = (List.range 8).map (Nac 19 7) := by kernel_rfl
theorem NkM : (List.range 8).map (Nab 19 8) = (List.range 8).map (Nac 19 8) := by kernel_rfl
theorem NkN : (List.range 8).map (Nab 19 9) = (List.range 8).map (Nac 19 9) := by kernel_rfl
theorem Nht : (List.range 8).map (Nab 19 10) = (List.range 8).map (Nac 19 10) := by kernel_rfl
theorem Nhu : (List.range 8).map (Nab 19 11) = (List.range 8).map (Nac 19 11) := by kernel_rfl
theorem Nhv : (List.range 8).map (Nab 19 12) = (List.range 8).map (Nac 19 12) := by kernel_rfl
theorem Nhw : (List.range 8).map (Nab 19 13) = (List.range 8).map (Nac 19 13) := by kernel_rfl
theorem Nhx : (List.range 8).map (Nab 19 14) = (List.range 8).map (Nac 19 14) := by kernel_rfl
theorem Nhy : (List.range 8).map (Nab 19 15) = (List.range 8).map (Nac 19 15) := by kernel_rfl
theorem Nhz : (List.range 8).map (Nab 19 16) = (List.range 8).map (Nac 19 16) := by kernel_rfl
theorem NhA : (List.range 8).map (Nab 19 17) = (List.range 8).map (Nac 19 17) := by kernel_rfl
theorem NhB : (List.range 8).map (Nab 19 18) = (List.range 8).map (Nac 19 18) := by kernel_rfl
theorem NhC : (List.range 8).map (Nab 19 19) = (List.range 8).map (Nac 19 19) := by kernel_rfl
theorem NhD : (List.range 8).map (Nab 19 20) = (List.range 8).map (Nac 19 20) := by kernel_rfl
end Go.Pe
