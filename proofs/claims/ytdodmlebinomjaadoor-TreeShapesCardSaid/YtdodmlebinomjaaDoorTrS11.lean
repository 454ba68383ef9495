/-
 TreeShapes: the operation 12, by the kernel. No condition. (Printed by gen_shapes.py.)
-/
import Derived.Test.YtdodmlebinomjaaDoorTreD
set_option linter.unusedVariables false
set_option maxRecDepth 100000
namespace Go.Pe
open Go

theorem Njm : (List.range 8).map (Nab 11 0) = (List.range 8).map (Nac 11 0) := by kernel_rfl
theorem Njn : (List.range 8).map (Nab 11 1) = (List.range 8).map (Nac 11 1) := by kernel_rfl
theorem Njo : (List.range 8).map (Nab 11 2) = (List.range 8).map (Nac 11 2) := by kernel_rfl
theorem Njp : (List.range 8).map (Nab 11 3) = (List.range 8).map (Nac 11 3) := by kernel_rfl
theorem Njq : (List.range 8).map (Nab 11 4) = (List.range 8).map (Nac 11 4) := by kernel_rfl
theorem Njr : (List.range 8).map (Nab 11 5) = (List.range 8).map (Nac 11 5) := by kernel_rfl
theorem Njs : (List.range 8).map (Nab 11 6) = (List.range 8).map (Nac 11 6) := by kernel_rfl
theorem Njt : (List.range 8).map (Nab 11 7) = (List.range 8).map (Nac 11 7) := by kernel_rfl
theorem Nju : (List.range 8).map (Nab 11 8) = (List.range 8).map (Nac 11 8) := by kernel_rfl
theorem Njv : (List.range 8).map (Nab 11 9) = (List.range 8).map (Nac 11 9) := by kernel_rfl
theorem Nf3 : (List.range 8).map (Nab 11 10) = (List.range 8).map (Nac 11 10) := by kernel_rfl
theorem Nf4 : (List.range 8).map (Nab 11 11) = (List.range 8).map (Nac 11 11) := by kernel_rfl
theorem Nf5 : (List.range 8).map (Nab 11 12) = (List.range 8).map (Nac 11 12) := by kernel_rfl
theorem Nf6 : (List.range 8).map (Nab 11 13) = (List.range 8).map (Nac 11 13) := by kernel_rfl
theorem Nf7 : (List.range 8).map (Nab 11 14) = (List.range 8).map (Nac 11 14) := by kernel_rfl
theorem Nf8 : (List.range 8).map (Nab 11 15) = (List.range 8).map (Nac 11 15) := by kernel_rfl
theorem Nf9 : (List.range 8).map (Nab 11 16) = (List.range 8).map (Nac 11 16) := by kernel_rfl
theorem Nga : (List.range 8).map (Nab 11 17) = (List.range 8).map (Nac 11 17) := by kernel_rfl
theorem Ngb : (List.range 8).map (Nab 11 18) = (List.range 8).map (Nac 11 18) := by kernel_rfl
theorem Ngc : (List.range 8).map (Nab 11 19) = (List.range 8).map (Nac 11 19) := by kernel_rfl
theorem Ngd : (List.range 8).map (Nab 11 20) = (List.range 8).map (Nac 11 20) := by kernel_rfl
end Go.Pe
