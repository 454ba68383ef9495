/-
 TreeShapes: the operation 18, by the kernel. No condition. (Printed by gen_shapes.py.)
-/
import Derived.Test.YtdodmlebinomjaaDoorTreD
set_option linter.unusedVariables false
set_option maxRecDepth 100000
namespace Go.Pe
open Go

theorem Nkk : (List.range 8).map (Nab 17 0) = (List.range 8).map (Nac 17 0) := by kernel_rfl
theorem Nkl : (List.range 8).map (Nab 17 1) = (List.range 8).map (Nac 17 1) := by kernel_rfl
theorem Nkm : (List.range 8).map (Nab 17 2) = (List.range 8).map (Nac 17 2) := by kernel_rfl
theorem Nkn : (List.range 8).map (Nab 17 3) = (List.range 8).map (Nac 17 3) := by kernel_rfl
theorem Nko : (List.range 8).map (Nab 17 4) = (List.range 8).map (Nac 17 4) := by kernel_rfl
theorem Nkp : (List.range 8).map (Nab 17 5) = (List.range 8).map (Nac 17 5) := by kernel_rfl
theorem Nkq : (List.range 8).map (Nab 17 6) = (List.range 8).map (Nac 17 6) := by kernel_rfl
theorem Nkr : (List.range 8).map (Nab 17 7) = (List.range 8).map (Nac 17 7) := by kernel_rfl
theorem Nks : (List.range 8).map (Nab 17 8) = (List.range 8).map (Nac 17 8) := by kernel_rfl
theorem Nkt : (List.range 8).map (Nab 17 9) = (List.range 8).map (Nac 17 9) := by kernel_rfl
theorem Ng7 : (List.range 8).map (Nab 17 10) = (List.range 8).map (Nac 17 10) := by kernel_rfl
theorem Ng8 : (List.range 8).map (Nab 17 11) = (List.range 8).map (Nac 17 11) := by kernel_rfl
theorem Ng9 : (List.range 8).map (Nab 17 12) = (List.range 8).map (Nac 17 12) := by kernel_rfl
theorem Nha : (List.range 8).map (Nab 17 13) = (List.range 8).map (Nac 17 13) := by kernel_rfl
theorem Nhb : (List.range 8).map (Nab 17 14) = (List.range 8).map (Nac 17 14) := by kernel_rfl
theorem Nhc : (List.range 8).map (Nab 17 15) = (List.range 8).map (Nac 17 15) := by kernel_rfl
theorem Nhd : (List.range 8).map (Nab 17 16) = (List.range 8).map (Nac 17 16) := by kernel_rfl
theorem Nhe : (List.range 8).map (Nab 17 17) = (List.range 8).map (Nac 17 17) := by kernel_rfl
theorem Nhf : (List.range 8).map (Nab 17 18) = (List.range 8).map (Nac 17 18) := by kernel_rfl
theorem Nhg : (List.range 8).map (Nab 17 19) = (List.range 8).map (Nac 17 19) := by kernel_rfl
theorem Nhh : (List.range 8).map (Nab 17 20) = (List.range 8).map (Nac 17 20) := by kernel_rfl
end Go.Pe
