/-
 TreeShapes: the operation 4, by the kernel. No condition. (Printed by gen_shapes.py.)
-/
import Derived.Test.YtdodmlebinomjaaDoorTreD
set_option linter.unusedVariables false
set_option maxRecDepth 100000
namespace Go.Pe
open Go

theorem NoG : (List.range 8).map (Nab 3 0) = (List.range 8).map (Nac 3 0) := by kernel_rfl
theorem NoH : (List.range 8).map (Nab 3 1) = (List.range 8).map (Nac 3 1) := by kernel_rfl
theorem NoI : (List.range 8).map (Nab 3 2) = (List.range 8).map (Nac 3 2) := by kernel_rfl
theorem NoJ : (List.range 8).map (Nab 3 3) = (List.range 8).map (Nac 3 3) := by kernel_rfl
theorem NoK : (List.range 8).map (Nab 3 4) = (List.range 8).map (Nac 3 4) := by kernel_rfl
theorem NoL : (List.range 8).map (Nab 3 5) = (List.range 8).map (Nac 3 5) := by kernel_rfl
theorem NoM : (List.range 8).map (Nab 3 6) = (List.range 8).map (Nac 3 6) := by kernel_rfl
theorem NoN : (List.range 8).map (Nab 3 7) = (List.range 8).map (Nac 3 7) := by kernel_rfl
theorem NoO : (List.range 8).map (Nab 3 8) = (List.range 8).map (Nac 3 8) := by kernel_rfl
theorem NoP : (List.range 8).map (Nab 3 9) = (List.range 8).map (Nac 3 9) := by kernel_rfl
theorem NlE : (List.range 8).map (Nab 3 10) = (List.range 8).map (Nac 3 10) := by kernel_rfl
theorem NlF : (List.range 8).map (Nab 3 11) = (List.range 8).map (Nac 3 11) := by kernel_rfl
theorem NlG : (List.range 8).map (Nab 3 12) = (List.range 8).map (Nac 3 12) := by kernel_rfl
theorem NlH : (List.range 8).map (Nab 3 13) = (List.range 8).map (Nac 3 13) := by kernel_rfl
theorem NlI : (List.range 8).map (Nab 3 14) = (List.range 8).map (Nac 3 14) := by kernel_rfl
theorem NlJ : (List.range 8).map (Nab 3 15) = (List.range 8).map (Nac 3 15) := by kernel_rfl
theorem NlK : (List.range 8).map (Nab 3 16) = (List.range 8).map (Nac 3 16) := by kernel_rfl
theorem NlL : (List.range 8).map (Nab 3 17) = (List.range 8).map (Nac 3 17) := by kernel_rfl
theorem NlM : (List.range 8).map (Nab 3 18) = (List.range 8).map (Nac 3 18) := by kernel_rfl
theorem NlN : (List.range 8).map (Nab 3 19) = (List.range 8).map (Nac 3 19) := by kernel_rfl
theorem NlO : (List.range 8).map (Nab 3 20) = (List.range 8).map (Nac 3 20) := by kernel_rfl
end Go.Pe
