/-
 TreeShapes: the operation 6, by the kernel. No condition. (Printed by gen_shapes.py.)
-/
import Derived.Test.YtdodmlebinomjaaDoorTreD
set_option linter.unusedVariables false
set_option maxRecDepth 100000
namespace Go.Pe
open Go

theorem No0 : (List.range 8).map (Nab 5 0) = (List.range 8).map (Nac 5 0) := by kernel_rfl
theorem No1 : (List.range 8).map (Nab 5 1) = (List.range 8).map (Nac 5 1) := by kernel_rfl
theorem No2 : (List.range 8).map (Nab 5 2) = (List.range 8).map (Nac 5 2) := by kernel_rfl
theorem No3 : (List.range 8).map (Nab 5 3) = (List.range 8).map (Nac 5 3) := by kernel_rfl
theorem No4 : (List.range 8).map (Nab 5 4) = (List.range 8).map (Nac 5 4) := by kernel_rfl
theorem No5 : (List.range 8).map (Nab 5 5) = (List.range 8).map (Nac 5 5) := by kernel_rfl
theorem No6 : (List.range 8).map (Nab 5 6) = (List.range 8).map (Nac 5 6) := by kernel_rfl
theorem No7 : (List.range 8).map (Nab 5 7) = (List.range 8).map (Nac 5 7) := by kernel_rfl
theorem No8 : (List.range 8).map (Nab 5 8) = (List.range 8).map (Nac 5 8) := by kernel_rfl
theorem No9 : (List.range 8).map (Nab 5 9) = (List.range 8).map (Nac 5 9) := by kernel_rfl
theorem Nl0 : (List.range 8).map (Nab 5 10) = (List.range 8).map (Nac 5 10) := by kernel_rfl
theorem Nl1 : (List.range 8).map (Nab 5 11) = (List.range 8).map (Nac 5 11) := by kernel_rfl
theorem Nl2 : (List.range 8).map (Nab 5 12) = (List.range 8).map (Nac 5 12) := by kernel_rfl
theorem Nl3 : (List.range 8).map (Nab 5 13) = (List.range 8).map (Nac 5 13) := by kernel_rfl
theorem Nl4 : (List.range 8).map (Nab 5 14) = (List.range 8).map (Nac 5 14) := by kernel_rfl
theorem Nl5 : (List.range 8).map (Nab 5 15) = (List.range 8).map (Nac 5 15) := by kernel_rfl
theorem Nl6 : (List.range 8).map (Nab 5 16) = (List.range 8).map (Nac 5 16) := by kernel_rfl
theorem Nl7 : (List.range 8).map (Nab 5 17) = (List.range 8).map (Nac 5 17) := by kernel_rfl
theorem Nl8 : (List.range 8).map (Nab 5 18) = (List.range 8).map (Nac 5 18) := by kernel_rfl
theorem Nl9 : (List.range 8).map (Nab 5 19) = (List.range 8).map (Nac 5 19) := by kernel_rfl
theorem Nma : (List.range 8).map (Nab 5 20) = (List.range 8).map (Nac 5 20) := by kernel_rfl
end Go.Pe
