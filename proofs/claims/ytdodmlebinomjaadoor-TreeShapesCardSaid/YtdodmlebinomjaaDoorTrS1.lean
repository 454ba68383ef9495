/-
 TreeShapes: the operation 2, by the kernel. No condition. (Printed by gen_shapes.py.)
-/
import Derived.Test.YtdodmlebinomjaaDoorTreD
set_option linter.unusedVariables false
set_option maxRecDepth 100000
namespace Go.Pe
open Go

theorem Noj : (List.range 8).map (Nab 1 0) = (List.range 8).map (Nac 1 0) := by kernel_rfl
theorem Nok : (List.range 8).map (Nab 1 1) = (List.range 8).map (Nac 1 1) := by kernel_rfl
theorem Nol : (List.range 8).map (Nab 1 2) = (List.range 8).map (Nac 1 2) := by kernel_rfl
theorem Nom : (List.range 8).map (Nab 1 3) = (List.range 8).map (Nac 1 3) := by kernel_rfl
theorem Non : (List.range 8).map (Nab 1 4) = (List.range 8).map (Nac 1 4) := by kernel_rfl
theorem Noo : (List.range 8).map (Nab 1 5) = (List.range 8).map (Nac 1 5) := by kernel_rfl
theorem Nop : (List.range 8).map (Nab 1 6) = (List.range 8).map (Nac 1 6) := by kernel_rfl
theorem Noq : (List.range 8).map (Nab 1 7) = (List.range 8).map (Nac 1 7) := by kernel_rfl
theorem Nos : (List.range 8).map (Nab 1 8) = (List.range 8).map (Nac 1 8) := by kernel_rfl
theorem Nou : (List.range 8).map (Nab 1 9) = (List.range 8).map (Nac 1 9) := by kernel_rfl
theorem NkO : (List.range 8).map (Nab 1 10) = (List.range 8).map (Nac 1 10) := by kernel_rfl
theorem NkP : (List.range 8).map (Nab 1 11) = (List.range 8).map (Nac 1 11) := by kernel_rfl
theorem NkQ : (List.range 8).map (Nab 1 12) = (List.range 8).map (Nac 1 12) := by kernel_rfl
theorem NkR : (List.range 8).map (Nab 1 13) = (List.range 8).map (Nac 1 13) := by kernel_rfl
theorem NkS : (List.range 8).map (Nab 1 14) = (List.range 8).map (Nac 1 14) := by kernel_rfl
theorem NkT : (List.range 8).map (Nab 1 15) = (List.range 8).map (Nac 1 15) := by kernel_rfl
theorem NkU : (List.range 8).map (Nab 1 16) = (List.range 8).map (Nac 1 16) := by kernel_rfl
theorem NkV : (List.range 8).map (Nab 1 17) = (List.range 8).map (Nac 1 17) := by kernel_rfl
theorem NkW : (List.range 8).map (Nab 1 18) = (List.range 8).map (Nac 1 18) := by kernel_rfl
theorem NkX : (List.range 8).map (Nab 1 19) = (List.range 8).map (Nac 1 19) := by kernel_rfl
theorem NkY : (List.range 8).map (Nab 1 20) = (List.range 8).map (Nac 1 20) := by kernel_rfl
end Go.Pe
