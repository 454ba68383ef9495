/-
 TreeShapes: the operation 7, by the kernel. No condition. (Printed by gen_shapes.py.)
-/
import Derived.Test.YtdodmlebinomjaaDoorTreD
set_option linter.unusedVariables false
set_option maxRecDepth 100000
namespace Go.Pe
open Go

theorem Npa : (List.range 8).map (Nab 6 0) = (List.range 8).map (Nac 6 0) := by kernel_rfl
theorem Npb : (List.range 8).map (Nab 6 1) = (List.range 8).map (Nac 6 1) := by kernel_rfl
theorem Npc : (List.range 8).map (Nab 6 2) = (List.range 8).map (Nac 6 2) := by kernel_rfl
theorem Npd : (List.range 8).map (Nab 6 3) = (List.range 8).map (Nac 6 3) := by kernel_rfl
theorem Npe : (List.range 8).map (Nab 6 4) = (List.range 8).map (Nac 6 4) := by kernel_rfl
theorem Npf : (List.range 8).map (Nab 6 5) = (List.range 8).map (Nac 6 5) := by kernel_rfl
theorem Npg : (List.range 8).map (Nab 6 6) = (List.range 8).map (Nac 6 6) := by kernel_rfl
theorem Nph : (List.range 8).map (Nab 6 7) = (List.range 8).map (Nac 6 7) := by kernel_rfl
theorem Npi : (List.range 8).map (Nab 6 8) = (List.range 8).map (Nac 6 8) := by kernel_rfl
theorem Npj : (List.range 8).map (Nab 6 9) = (List.range 8).map (Nac 6 9) := by kernel_rfl
theorem Nmb : (List.range 8).map (Nab 6 10) = (List.range 8).map (Nac 6 10) := by kernel_rfl
theorem Nmc : (List.range 8).map (Nab 6 11) = (List.range 8).map (Nac 6 11) := by kernel_rfl
theorem Nmd : (List.range 8).map (Nab 6 12) = (List.range 8).map (Nac 6 12) := by kernel_rfl
theorem Nme : (List.range 8).map (Nab 6 13) = (List.range 8).map (Nac 6 13) := by kernel_rfl
theorem Nmf : (List.range 8).map (Nab 6 14) = (List.range 8).map (Nac 6 14) := by kernel_rfl
theorem Nmg : (List.range 8).map (Nab 6 15) = (List.range 8).map (Nac 6 15) := by kernel_rfl
theorem Nmh : (List.range 8).map (Nab 6 16) = (List.range 8).map (Nac 6 16) := by kernel_rfl
theorem Nmi : (List.range 8).map (Nab 6 17) = (List.range 8).map (Nac 6 17) := by kernel_rfl
theorem Nmj : (List.range 8).map (Nab 6 18) = (List.range 8).map (Nac 6 18) := by kernel_rfl
theorem Nmk : (List.range 8).map (Nab 6 19) = (List.range 8).map (Nac 6 19) := by kernel_rfl
theorem Nml : (List.range 8).map (Nab 6 20) = (List.range 8).map (Nac 6 20) := by kernel_rfl
end Go.Pe
