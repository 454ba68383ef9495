/-
 TreeShapes: the operation 8, by the kernel. No condition. (Printed by gen_shapes.py.)
-/
import Derived.Test.YtdodmlebinomjaaDoorTreD
set_option linter.unusedVariables false
set_option maxRecDepth 100000
namespace Go.Pe
open Go

theorem Npk : (List.range 8).map (Nab 7 0) = (List.range 8).map (Nac 7 0) := by kernel_rfl
theorem Npl : (List.range 8).map (Nab 7 1) = (List.range 8).map (Nac 7 1) := by kernel_rfl
theorem Npm : (List.range 8).map (Nab 7 2) = (List.range 8).map (Nac 7 2) := by kernel_rfl
theorem Npn : (List.range 8).map (Nab 7 3) = (List.range 8).map (Nac 7 3) := by kernel_rfl
theorem Npo : (List.range 8).map (Nab 7 4) = (List.range 8).map (Nac 7 4) := by kernel_rfl
theorem Npp : (List.range 8).map (Nab 7 5) = (List.range 8).map (Nac 7 5) := by kernel_rfl
theorem Npq : (List.range 8).map (Nab 7 6) = (List.range 8).map (Nac 7 6) := by kernel_rfl
theorem Npr : (List.range 8).map (Nab 7 7) = (List.range 8).map (Nac 7 7) := by kernel_rfl
theorem Nps : (List.range 8).map (Nab 7 8) = (List.range 8).map (Nac 7 8) := by kernel_rfl
theorem Npt : (List.range 8).map (Nab 7 9) = (List.range 8).map (Nac 7 9) := by kernel_rfl
theorem Nmm : (List.range 8).map (Nab 7 10) = (List.range 8).map (Nac 7 10) := by kernel_rfl
theorem Nmn : (List.range 8).map (Nab 7 11) = (List.range 8).map (Nac 7 11) := by kernel_rfl
theorem Nmo : (List.range 8).map (Nab 7 12) = (List.range 8).map (Nac 7 12) := by kernel_rfl
theorem Nmp : (List.range 8).map (Nab 7 13) = (List.range 8).map (Nac 7 13) := by kernel_rfl
theorem Nmq : (List.range 8).map (Nab 7 14) = (List.range 8).map (Nac 7 14) := by kernel_rfl
theorem Nmr : (List.range 8).map (Nab 7 15) = (List.range 8).map (Nac 7 15) := by kernel_rfl
theorem Nms : (List.range 8).map (Nab 7 16) = (List.range 8).map (Nac 7 16) := by kernel_rfl
theorem Nmt : (List.range 8).map (Nab 7 17) = (List.range 8).map (Nac 7 17) := by kernel_rfl
theorem Nmu : (List.range 8).map (Nab 7 18) = (List.range 8).map (Nac 7 18) := by kernel_rfl
theorem Nmv : (List.range 8).map (Nab 7 19) = (List.range 8).map (Nac 7 19) := by kernel_rfl
theorem Nmw : (List.range 8).map (Nab 7 20) = (List.range 8).map (Nac 7 20) := by kernel_rfl
end Go.Pe
