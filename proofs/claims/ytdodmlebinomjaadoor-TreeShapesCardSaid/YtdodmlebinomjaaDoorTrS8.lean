/-
 TreeShapes: the operation 9, by the kernel. No condition. (Printed by gen_shapes.py.)
-/
import Derived.Test.YtdodmlebinomjaaDoorTreD
set_option linter.unusedVariables false
set_option maxRecDepth 100000
namespace Go.Pe
open Go

theorem Npu : (List.range 8).map (Nab 8 0) = (List.range 8).map (Nac 8 0) := by kernel_rfl
theorem Npv : (List.range 8).map (Nab 8 1) = (List.range 8).map (Nac 8 1) := by kernel_rfl
theorem Npw : (List.range 8).map (Nab 8 2) = (List.range 8).map (Nac 8 2) := by kernel_rfl
theorem Npx : (List.range 8).map (Nab 8 3) = (List.range 8).map (Nac 8 3) := by kernel_rfl
theorem Npy : (List.range 8).map (Nab 8 4) = (List.range 8).map (Nac 8 4) := by kernel_rfl
theorem Npz : (List.range 8).map (Nab 8 5) = (List.range 8).map (Nac 8 5) := by kernel_rfl
theorem NpA : (List.range 8).map (Nab 8 6) = (List.range 8).map (Nac 8 6) := by kernel_rfl
theorem NpB : (List.range 8).map (Nab 8 7) = (List.range 8).map (Nac 8 7) := by kernel_rfl
theorem NpC : (List.range 8).map (Nab 8 8) = (List.range 8).map (Nac 8 8) := by kernel_rfl
theorem NpD : (List.range 8).map (Nab 8 9) = (List.range 8).map (Nac 8 9) := by kernel_rfl
theorem Nmx : (List.range 8).map (Nab 8 10) = (List.range 8).map (Nac 8 10) := by kernel_rfl
theorem Nmy : (List.range 8).map (Nab 8 11) = (List.range 8).map (Nac 8 11) := by kernel_rfl
theorem Nmz : (List.range 8).map (Nab 8 12) = (List.range 8).map (Nac 8 12) := by kernel_rfl
theorem NmA : (List.range 8).map (Nab 8 13) = (List.range 8).map (Nac 8 13) := by kernel_rfl
theorem NmB : (List.range 8).map (Nab 8 14) = (List.range 8).map (Nac 8 14) := by kernel_rfl
theorem NmC : (List.range 8).map (Nab 8 15) = (List.range 8).map (Nac 8 15) := by kernel_rfl
theorem NmD : (List.range 8).map (Nab 8 16) = (List.range 8).map (Nac 8 16) := by kernel_rfl
theorem NmE : (List.range 8).map (Nab 8 17) = (List.range 8).map (Nac 8 17) := by kernel_rfl
theorem NmF : (List.range 8).map (Nab 8 18) = (List.range 8).map (Nac 8 18) := by kernel_rfl
theorem NmG : (List.range 8).map (Nab 8 19) = (List.range 8).map (Nac 8 19) := by kernel_rfl
theorem NmH : (List.range 8).map (Nab 8 20) = (List.range 8).map (Nac 8 20) := by kernel_rfl
end Go.Pe
