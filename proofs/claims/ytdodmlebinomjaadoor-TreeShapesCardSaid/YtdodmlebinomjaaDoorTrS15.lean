/-
 TreeShapes: the operation 16, by the kernel. No condition. (Printed by gen_shapes.py.)
-/
import Derived.Test.YtdodmlebinomjaaDoorTreD
set_option linter.unusedVariables false
set_option maxRecDepth 100000
namespace Go.Pe
open Go

theorem Nj0 : (List.range 8).map (Nab 15 0) = (List.range 8).map (Nac 15 0) := by kernel_rfl
theorem Nj1 : (List.range 8).map (Nab 15 1) = (List.range 8).map (Nac 15 1) := by kernel_rfl
theorem Nj2 : (List.range 8).map (Nab 15 2) = (List.range 8).map (Nac 15 2) := by kernel_rfl
theorem Nj3 : (List.range 8).map (Nab 15 3) = (List.range 8).map (Nac 15 3) := by kernel_rfl
theorem Nj4 : (List.range 8).map (Nab 15 4) = (List.range 8).map (Nac 15 4) := by kernel_rfl
theorem Nj5 : (List.range 8).map (Nab 15 5) = (List.range 8).map (Nac 15 5) := by kernel_rfl
theorem Nj6 : (List.range 8).map (Nab 15 6) = (List.range 8).map (Nac 15 6) := by kernel_rfl
theorem Nj7 : (List.range 8).map (Nab 15 7) = (List.range 8).map (Nac 15 7) := by kernel_rfl
theorem Nj8 : (List.range 8).map (Nab 15 8) = (List.range 8).map (Nac 15 8) := by kernel_rfl
theorem Nj9 : (List.range 8).map (Nab 15 9) = (List.range 8).map (Nac 15 9) := by kernel_rfl
theorem NgL : (List.range 8).map (Nab 15 10) = (List.range 8).map (Nac 15 10) := by kernel_rfl
theorem NgM : (List.range 8).map (Nab 15 11) = (List.range 8).map (Nac 15 11) := by kernel_rfl
theorem NgN : (List.range 8).map (Nab 15 12) = (List.range 8).map (Nac 15 12) := by kernel_rfl
theorem NgO : (List.range 8).map (Nab 15 13) = (List.range 8).map (Nac 15 13) := by kernel_rfl
theorem NgP : (List.range 8).map (Nab 15 14) = (List.range 8).map (Nac 15 14) := by kernel_rfl
theorem NgQ : (List.range 8).map (Nab 15 15) = (List.range 8).map (Nac 15 15) := by kernel_rfl
theorem NgR : (List.range 8).map (Nab 15 16) = (List.range 8).map (Nac 15 16) := by kernel_rfl
theorem NgS : (List.range 8).map (Nab 15 17) = (List.range 8).map (Nac 15 17) := by kernel_rfl
theorem NgT : (List.range 8).map (Nab 15 18) = (List.range 8).map (Nac 15 18) := by kernel_rfl
theorem NgU : (List.range 8).map (Nab 15 19) = (List.range 8).map (Nac 15 19) := by kernel_rfl
theorem NgV : (List.range 8).map (Nab 15 20) = (List.range 8).map (Nac 15 20) := by kernel_rfl
end Go.Pe
