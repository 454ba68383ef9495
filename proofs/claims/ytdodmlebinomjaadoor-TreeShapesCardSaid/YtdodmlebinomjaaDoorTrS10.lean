/-
 TreeShapes: the operation 11, by the kernel. No condition. (Printed by gen_shapes.py.)
-/
import Derived.Test.YtdodmlebinomjaaDoorTreD
set_option linter.unusedVariables false
set_option maxRecDepth 100000
namespace Go.Pe
open Go

theorem Njc : (List.range 8).map (Nab 10 0) = (List.range 8).map (Nac 10 0) := by kernel_rfl
theorem Njd : (List.range 8).map (Nab 10 1) = (List.range 8).map (Nac 10 1) := by kernel_rfl
theorem Nje : (List.range 8).map (Nab 10 2) = (List.range 8).map (Nac 10 2) := by kernel_rfl
theorem Njf : (List.range 8).map (Nab 10 3) = (List.range 8).map (Nac 10 3) := by kernel_rfl
theorem Njg : (List.range 8).map (Nab 10 4) = (List.range 8).map (Nac 10 4) := by kernel_rfl
theorem Njh : (List.range 8).map (Nab 10 5) = (List.range 8).map (Nac 10 5) := by kernel_rfl
theorem Nji : (List.range 8).map (Nab 10 6) = (List.range 8).map (Nac 10 6) := by kernel_rfl
theorem Njj : (List.range 8).map (Nab 10 7) = (List.range 8).map (Nac 10 7) := by kernel_rfl
theorem Njk : (List.range 8).map (Nab 10 8) = (List.range 8).map (Nac 10 8) := by kernel_rfl
theorem Njl : (List.range 8).map (Nab 10 9) = (List.range 8).map (Nac 10 9) := by kernel_rfl
theorem NfS : (List.range 8).map (Nab 10 10) = (List.range 8).map (Nac 10 10) := by kernel_rfl
theorem NfT : (List.range 8).map (Nab 10 11) = (List.range 8).map (Nac 10 11) := by kernel_rfl
theorem NfU : (List.range 8).map (Nab 10 12) = (List.range 8).map (Nac 10 12) := by kernel_rfl
theorem NfV : (List.range 8).map (Nab 10 13) = (List.range 8).map (Nac 10 13) := by kernel_rfl
theorem NfW : (List.range 8).map (Nab 10 14) = (List.range 8).map (Nac 10 14) := by kernel_rfl
theorem NfX : (List.range 8).map (Nab 10 15) = (List.range 8).map (Nac 10 15) := by kernel_rfl
theorem NfY : (List.range 8).map (Nab 10 16) = (List.range 8).map (Nac 10 16) := by kernel_rfl
theorem NfZ : (List.range 8).map (Nab 10 17) = (List.range 8).map (Nac 10 17) := by kernel_rfl
theorem Nf0 : (List.range 8).map (Nab 10 18) = (List.range 8).map (Nac 10 18) := by kernel_rfl
theorem Nf1 : (List.range 8).map (Nab 10 19) = (List.range 8).map (Nac 10 19) := by kernel_rfl
theorem Nf2 : (List.range 8).map (Nab 10 20) = (List.range 8).map (Nac 10 20) := by kernel_rfl
end Go.Pe
