/-
 TreeShapes: the operation 19, by the kernel. No condition. (Printed by gen_shapes.py.)
-/
import Derived.Test.YtdodmlebinomjaaDoorTreD
set_option linter.unusedVariables false
set_option maxRecDepth 100000
namespace Go.Pe
open Go

theorem Nku : (List.range 8).map (Nab 18 0) = (List.range 8).map (Nac 18 0) := by kernel_rfl
theorem Nkv : (List.range 8).map (Nab 18 1) = (List.range 8).map (Nac 18 1) := by kernel_rfl
theorem Nkw : (List.range 8).map (Nab 18 2) = (List.range 8).map (Nac 18 2) := by kernel_rfl
theorem Nkx : (List.range 8).map (Nab 18 3) = (List.range 8).map (Nac 18 3) := by kernel_rfl
theorem Nky : (List.range 8).map (Nab 18 4) = (List.range 8).map (Nac 18 4) := by kernel_rfl
theorem Nkz : (List.range 8).map (Nab 18 5) = (List.range 8).map (Nac 18 5) := by kernel_rfl
theorem NkA : (List.range 8).map (Nab 18 6) = (List.range 8).map (Nac 18 6) := by kernel_rfl
theorem NkB : (List.range 8).map (Nab 18 7) = (List.range 8).map (Nac 18 7) := by kernel_rfl
theorem NkC : (List.range 8).map (Nab 18 8) = (List.range 8).map (Nac 18 8) := by kernel_rfl
theorem NkD : (List.range 8).map (Nab 18 9) = (List.range 8).map (Nac 18 9) := by kernel_rfl
theorem Nhi : (List.range 8).map (Nab 18 10) = (List.range 8).map (Nac 18 10) := by kernel_rfl
theorem Nhj : (List.range 8).map (Nab 18 11) = (List.range 8).map (Nac 18 11) := by kernel_rfl
theorem Nhk : (List.range 8).map (Nab 18 12) = (List.range 8).map (Nac 18 12) := by kernel_rfl
theorem Nhl : (List.range 8).map (Nab 18 13) = (List.range 8).map (Nac 18 13) := by kernel_rfl
theorem Nhm : (List.range 8).map (Nab 18 14) = (List.range 8).map (Nac 18 14) := by kernel_rfl
theorem Nhn : (List.range 8).map (Nab 18 15) = (List.range 8).map (Nac 18 15) := by kernel_rfl
theorem Nho : (List.range 8).map (Nab 18 16) = (List.range 8).map (Nac 18 16) := by kernel_rfl
theorem Nhp : (List.range 8).map (Nab 18 17) = (List.range 8).map (Nac 18 17) := by kernel_rfl
theorem Nhq : (List.range 8).map (Nab 18 18) = (List.range 8).map (Nac 18 18) := by kernel_rfl
theorem Nhr : (List.range 8).map (Nab 18 19) = (List.range 8).map (Nac 18 19) := by kernel_rfl
theorem Nhs : (List.range 8).map (Nab 18 20) = (List.range 8).map (Nac 18 20) := by kernel_rfl
end Go.Pe
