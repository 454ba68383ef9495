/-
 TreeShapes: the operation 17, by the kernel. No condition. (Printed by gen_shapes.py.)
-/
import Derived.Test.YtdodmlebinomjaaDoorTreD
set_option linter.unusedVariables false
set_option maxRecDepth 100000
namespace Go.Pe
open Go

theorem Nka : (List.range 8).map (Nab 16 0) = (List.range 8).map (Nac 16 0) := by kernel_rfl
theorem Nkb : (List.range 8).map (Nab 16 1) = (List.range 8).map (Nac 16 1) := by kernel_rfl
theorem Nkc : (List.range 8).map (Nab 16 2) = (List.range 8).map (Nac 16 2) := by kernel_rfl
theorem Nkd : (List.range 8).map (Nab 16 3) = (List.range 8).map (Nac 16 3) := by kernel_rfl
theorem Nke : (List.range 8).map (Nab 16 4) = (List.range 8).map (Nac 16 4) := by kernel_rfl
theorem Nkf : (List.range 8).map (Nab 16 5) = (List.range 8).map (Nac 16 5) := by kernel_rfl
theorem Nkg : (List.range 8).map (Nab 16 6) = (List.range 8).map (Nac 16 6) := by kernel_rfl
theorem Nkh : (List.range 8).map (Nab 16 7) = (List.range 8).map (Nac 16 7) := by kernel_rfl
theorem Nki : (List.range 8).map (Nab 16 8) = (List.range 8).map (Nac 16 8) := by kernel_rfl
theorem Nkj : (List.range 8).map (Nab 16 9) = (List.range 8).map (Nac 16 9) := by kernel_rfl
theorem NgW : (List.range 8).map (Nab 16 10) = (List.range 8).map (Nac 16 10) := by kernel_rfl
theorem NgX : (List.range 8).map (Nab 16 11) = (List.range 8).map (Nac 16 11) := by kernel_rfl
theorem NgY : (List.range 8).map (Nab 16 12) = (List.range 8).map (Nac 16 12) := by kernel_rfl
theorem NgZ : (List.range 8).map (Nab 16 13) = (List.range 8).map (Nac 16 13) := by kernel_rfl
theorem Ng0 : (List.range 8).map (Nab 16 14) = (List.range 8).map (Nac 16 14) := by kernel_rfl
theorem Ng1 : (List.range 8).map (Nab 16 15) = (List.range 8).map (Nac 16 15) := by kernel_rfl
theorem Ng2 : (List.range 8).map (Nab 16 16) = (List.range 8).map (Nac 16 16) := by kernel_rfl
theorem Ng3 : (List.range 8).map (Nab 16 17) = (List.range 8).map (Nac 16 17) := by kernel_rfl
theorem Ng4 : (List.range 8).map (Nab 16 18) = (List.range 8).map (Nac 16 18) := by kernel_rfl
theorem Ng5 : (List.range 8).map (Nab 16 19) = (List.range 8).map (Nac 16 19) := by kernel_rfl
theorem Ng6 : (List.range 8).map (Nab 16 20) = (List.range 8).map (Nac 16 20) := by kernel_rfl
end Go.Pe
