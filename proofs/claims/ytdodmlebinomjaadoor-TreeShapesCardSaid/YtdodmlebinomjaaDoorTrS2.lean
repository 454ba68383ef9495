/-
 TreeShapes: the operation 3, by the kernel. No condition. (Printed by gen_shapes.py.)
-/
import Derived.Test.YtdodmlebinomjaaDoorTreD
set_option linter.unusedVariables false
set_option maxRecDepth 100000
namespace Go.Pe
open Go

theorem Nov : (List.range 8).map (Nab 2 0) = (List.range 8).map (Nac 2 0) := by kernel_rfl
theorem Nox : (List.range 8).map (Nab 2 1) = (List.range 8).map (Nac 2 1) := by kernel_rfl
theorem Noy : (List.range 8).map (Nab 2 2) = (List.range 8).map (Nac 2 2) := by kernel_rfl
theorem Noz : (List.range 8).map (Nab 2 3) = (List.range 8).map (Nac 2 3) := by kernel_rfl
theorem NoA : (List.range 8).map (Nab 2 4) = (List.range 8).map (Nac 2 4) := by kernel_rfl
theorem NoB : (List.range 8).map (Nab 2 5) = (List.range 8).map (Nac 2 5) := by kernel_rfl
theorem NoC : (List.range 8).map (Nab 2 6) = (List.range 8).map (Nac 2 6) := by kernel_rfl
theorem NoD : (List.range 8).map (Nab 2 7) = (List.range 8).map (Nac 2 7) := by kernel_rfl
theorem NoE : (List.range 8).map (Nab 2 8) = (List.range 8).map (Nac 2 8) := by kernel_rfl
theorem NoF : (List.range 8).map (Nab 2 9) = (List.range 8).map (Nac 2 9) := by kernel_rfl
theorem Nlt : (List.range 8).map (Nab 2 10) = (List.range 8).map (Nac 2 10) := by kernel_rfl
theorem Nlu : (List.range 8).map (Nab 2 11) = (List.range 8).map (Nac 2 11) := by kernel_rfl
theorem Nlv : (List.range 8).map (Nab 2 12) = (List.range 8).map (Nac 2 12) := by kernel_rfl
theorem Nlw : (List.range 8).map (Nab 2 13) = (List.range 8).map (Nac 2 13) := by kernel_rfl
theorem Nlx : (List.range 8).map (Nab 2 14) = (List.range 8).map (Nac 2 14) := by kernel_rfl
theorem Nly : (List.range 8).map (Nab 2 15) = (List.range 8).map (Nac 2 15) := by kernel_rfl
theorem Nlz : (List.range 8).map (Nab 2 16) = (List.range 8).map (Nac 2 16) := by kernel_rfl
theorem NlA : (List.range 8).map (Nab 2 17) = (List.range 8).map (Nac 2 17) := by kernel_rfl
theorem NlB : (List.range 8).map (Nab 2 18) = (List.range 8).map (Nac 2 18) := by kernel_rfl
theorem NlC : (List.range 8).map (Nab 2 19) = (List.range 8).map (Nac 2 19) := by kernel_rfl
theorem NlD : (List.range 8).map (Nab 2 20) = (List.range 8).map (Nac 2 20) := by kernel_rfl
end Go.Pe
