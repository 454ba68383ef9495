/-
 TreeShapes: the operation 23, by the kernel. No condition. (Printed by gen_shapes.py.)
-/
import Derived.Test.YtdodmlebinomjaaDoorTreD
set_option linter.unusedVariables false
set_option maxRecDepth 100000
namespace Go.Pe
open Go

theorem Nlj : (List.range 8).map (Nab 22 0) = (List.range 8).map (Nac 22 0) := by kernel_rfl
theorem Nlk : (List.range 8).map (Nab 22 1) = (List.range 8).map (Nac 22 1) := by kernel_rfl
theorem Nll : (List.range 8).map (Nab 22 2) = (List.range 8).map (Nac 22 2) := by kernel_rfl
theorem Nlm : (List.range 8).map (Nab 22 3) = (List.range 8).map (Nac 22 3) := by kernel_rfl
theorem Nln : (List.range 8).map (Nab 22 4) = (List.range 8).map (Nac 22 4) := by kernel_rfl
theorem Nlo : (List.range 8).map (Nab 22 5) = (List.range 8).map (Nac 22 5) := by kernel_rfl
theorem Nlp : (List.range 8).map (Nab 22 6) = (List.range 8).map (Nac 22 6) := by kernel_rfl
theorem Nlq : (List.range 8).map (Nab 22 7) = (List.range 8).map (Nac 22 7) := by kernel_rfl
theorem Nlr : (List.range 8).map (Nab 22 8) = (List.range 8).map (Nac 22 8) := by kernel_rfl
theorem Nls : (List.range 8).map (Nab 22 9) = (List.range 8).map (Nac 22 9) := by kernel_rfl
theorem Nh0 : (List.range 8).map (Nab 22 10) = (List.range 8).map (Nac 22 10) := by kernel_rfl
theorem Nh1 : (List.range 8).map (Nab 22 11) = (List.range 8).map (Nac 22 11) := by kernel_rfl
theorem Nh2 : (List.range 8).map (Nab 22 12) = (List.range 8).map (Nac 22 12) := by kernel_rfl
theorem Nh3 : (List.range 8).map (Nab 22 13) = (List.range 8).map (Nac 22 13) := by kernel_rfl
theorem Nh4 : (List.range 8).map (Nab 22 14) = (List.range 8).map (Nac 22 14) := by kernel_rfl
theorem Nh5 : (List.range 8).map (Nab 22 15) = (List.range 8).map (Nac 22 15) := by kernel_rfl
theorem Nh6 : (List.range 8).map (Nab 22 16) = (List.range 8).map (Nac 22 16) := by kernel_rfl
theorem Nh7 : (List.range 8).map (Nab 22 17) = (List.range 8).map (Nac 22 17) := by kernel_rfl
theorem Nh8 : (List.range 8).map (Nab 22 18) = (List.range 8).map (Nac 22 18) := by kernel_rfl
theorem Nh9 : (List.range 8).map (Nab 22 19) = (List.range 8).map (Nac 22 19) := by kernel_rfl
theorem Nia : (List.range 8).map (Nab 22 20) = (List.range 8).map (Nac 22 20) := by kernel_rfl
end Go.Pe
