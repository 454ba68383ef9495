/-
 TreeShapes: the operation 1, by the kernel. No condition. (Printed by gen_shapes.py.)
-/
import Derived.Test.YtdodmlebinomjaaDoorTreD
set_option linter.unusedVariables false
set_option maxRecDepth 100000
namespace Go.Pe
open Go

theorem Nn9 : (List.range 8).map (Nab 0 0) = (List.range 8).map (Nac 0 0) := by kernel_rfl
theorem Noa : (List.range 8).map (Nab 0 1) = (List.range 8).map (Nac 0 1) := by kernel_rfl
theorem Nob : (List.range 8).map (Nab 0 2) = (List.range 8).map (Nac 0 2) := by kernel_rfl
theorem Noc : (List.range 8).map (Nab 0 3) = (List.range 8).map (Nac 0 3) := by kernel_rfl
theorem Nod : (List.range 8).map (Nab 0 4) = (List.range 8).map (Nac 0 4) := by kernel_rfl
theorem Noe : (List.range 8).map (Nab 0 5) = (List.range 8).map (Nac 0 5) := by kernel_rfl
theorem Nof : (List.range 8).map (Nab 0 6) = (List.range 8).map (Nac 0 6) := by kernel_rfl
theorem Nog : (List.range 8).map (Nab 0 7) = (List.range 8).map (Nac 0 7) := by kernel_rfl
theorem Noh : (List.range 8).map (Nab 0 8) = (List.range 8).map (Nac 0 8) := by kernel_rfl
theorem Noi : (List.range 8).map (Nab 0 9) = (List.range 8).map (Nac 0 9) := by kernel_rfl
theorem Ni1 : (List.range 8).map (Nab 0 10) = (List.range 8).map (Nac 0 10) := by kernel_rfl
theorem Ni2 : (List.range 8).map (Nab 0 11) = (List.range 8).map (Nac 0 11) := by kernel_rfl
theorem Ni3 : (List.range 8).map (Nab 0 12) = (List.range 8).map (Nac 0 12) := by kernel_rfl
theorem Ni4 : (List.range 8).map (Nab 0 13) = (List.range 8).map (Nac 0 13) := by kernel_rfl
theorem Ni5 : (List.range 8).map (Nab 0 14) = (List.range 8).map (Nac 0 14) := by kernel_rfl
theorem Ni6 : (List.range 8).map (Nab 0 15) = (List.range 8).map (Nac 0 15) := by kernel_rfl
theorem Ni7 : (List.range 8).map (Nab 0 16) = (List.range 8).map (Nac 0 16) := by kernel_rfl
theorem Ni8 : (List.range 8).map (Nab 0 17) = (List.range 8).map (Nac 0 17) := by kernel_rfl
theorem Ni9 : (List.range 8).map (Nab 0 18) = (List.range 8).map (Nac 0 18) := by kernel_rfl
theorem Nja : (List.range 8).map (Nab 0 19) = (List.range 8).map (Nac 0 19) := by kernel_rfl
theorem Njb : (List.range 8).map (Nab 0 20) = (List.range 8).map (Nac 0 20) := by kernel_rfl
end Go.Pe
