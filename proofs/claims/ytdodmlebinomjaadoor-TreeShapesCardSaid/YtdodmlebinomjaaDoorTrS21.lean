/-
 TreeShapes: the operation 22, by the kernel. No condition. (Printed by gen_shapes.py.)
-/
import Derived.Test.YtdodmlebinomjaaDoorTreD
set_option linter.unusedVariables false
set_option maxRecDepth 100000
namespace Go.Pe
open Go

theorem Nk9 : (List.range 8).map (Nab 21 0) = (List.range 8).map (Nac 21 0) := by kernel_rfl
theorem Nla : (List.range 8).map (Nab 21 1) = (List.range 8).map (Nac 21 1) := by kernel_rfl
theorem Nlb : (List.range 8).map (Nab 21 2) = (List.range 8).map (Nac 21 2) := by kernel_rfl
theorem Nlc : (List.range 8).map (Nab 21 3) = (List.range 8).map (Nac 21 3) := by kernel_rfl
theorem Nld : (List.range 8).map (Nab 21 4) = (List.range 8).map (Nac 21 4) := by kernel_rfl
theorem Nle : (List.range 8).map (Nab 21 5) = (List.range 8).map (Nac 21 5) := by kernel_rfl
theorem Nlf : (List.range 8).map (Nab 21 6) = (List.range 8).map (Nac 21 6) := by kernel_rfl
theorem Nlg : (List.range 8).map (Nab 21 7) = (List.range 8).map (Nac 21 7) := by kernel_rfl
theorem Nlh : (List.range 8).map (Nab 21 8) = (List.range 8).map (Nac 21 8) := by kernel_rfl
theorem Nli : (List.range 8).map (Nab 21 9) = (List.range 8).map (Nac 21 9) := by kernel_rfl
theorem NhP : (List.range 8).map (Nab 21 10) = (List.range 8).map (Nac 21 10) := by kernel_rfl
theorem NhQ : (List.range 8).map (Nab 21 11) = (List.range 8).map (Nac 21 11) := by kernel_rfl
theorem NhR : (List.range 8).map (Nab 21 12) = (List.range 8).map (Nac 21 12) := by kernel_rfl
theorem NhS : (List.range 8).map (Nab 21 13) = (List.range 8).map (Nac 21 13) := by kernel_rfl
theorem NhT : (List.range 8).map (Nab 21 14) = (List.range 8).map (Nac 21 14) := by kernel_rfl
theorem NhU : (List.range 8).map (Nab 21 15) = (List.range 8).map (Nac 21 15) := by kernel_rfl
theorem NhV : (List.range 8).map (Nab 21 16) = (List.range 8).map (Nac 21 16) := by kernel_rfl
theorem NhW : (List.range 8).map (Nab 21 17) = (List.range 8).map (Nac 21 17) := by kernel_rfl
theorem NhX : (List.range 8).map (Nab 21 18) = (List.range 8).map (Nac 21 18) := by kernel_rfl
theorem NhY : (List.range 8).map (Nab 21 19) = (List.range 8).map (Nac 21 19) := by kernel_rfl
theorem NhZ : (List.range 8).map (Nab 21 20) = (List.range 8).map (Nac 21 20) := by kernel_rfl
end Go.Pe
