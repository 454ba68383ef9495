/-
 CheckFirst: its cases by the kernel (5). No condition.
-/
import Derived.Test.YtjnofhibldppoaaChkD
set_option linter.unusedVariables false
set_option maxRecDepth 100000
namespace Go.Pe
open Go

theorem Nhj (one two : Int) : firstL.map (fun p => Naj one two p.1 p.2 6 7) = firstL.map fun _ => some (true, .b true) := by kernel_rfl
theorem Ng1 (one two : Int) : firstL.map (fun p => Naj one two p.1 p.2 6 8) = firstL.map fun _ => some (true, .b true) := by kernel_rfl
theorem Ng8 (one two : Int) : firstL.map (fun p => Naj one two p.1 p.2 6 9) = firstL.map fun _ => some (true, .b true) := by kernel_rfl
theorem Ngq (one two : Int) : firstL.map (fun p => Naj one two p.1 p.2 7 0) = firstL.map fun _ => some (true, .b true) := by kernel_rfl
theorem NfE (one two : Int) : firstL.map (fun p => Naj one two p.1 p.2 7 1) = firstL.map fun _ => some (true, .b true) := by kernel_rfl
theorem NgO (one two : Int) : firstL.map (fun p => Naj one two p.1 p.2 7 2) = firstL.map fun _ => some (true, .b true) := by kernel_rfl
theorem NhM (one two : Int) : firstL.map (fun p => Naj one two p.1 p.2 7 3) = firstL.map fun _ => some (true, .b true) := by kernel_rfl
theorem Ng6 (one two : Int) : firstL.map (fun p => Naj one two p.1 p.2 7 4) = firstL.map fun _ => some (true, .b true) := by kernel_rfl
theorem Nf9 (one two : Int) : firstL.map (fun p => Naj one two p.1 p.2 7 5) = firstL.map fun _ => some (true, .b true) := by kernel_rfl
theorem Ngp (one two : Int) : firstL.map (fun p => Naj one two p.1 p.2 7 6) = firstL.map fun _ => some (true, .b true) := by kernel_rfl
theorem Ngs (one two : Int) : firstL.map (fun p => Naj one two p.1 p.2 7 8) = firstL.map fun _ => some (true, .b true) := by kernel_rfl
theorem NfZ (one two : Int) : firstL.map (fun p => Naj one two p.1 p.2 7 9) = firstL.map fun _ => some (true, .b true) := by kernel_rfl
theorem Nf1 (one two : Int) : firstL.map (fun p => Naj one two p.1 p.2 8 0) = firstL.map fun _ => some (true, .b true) := by kernel_rfl
theorem NhQ (one two : Int) : firstL.map (fun p => Naj one two p.1 p.2 8 1) = firstL.map fun _ => some (true, .b true) := by kernel_rfl
theorem Ngn (one two : Int) : firstL.map (fun p => Naj one two p.1 p.2 8 2) = firstL.map fun _ => some (true, .b true) := by kernel_rfl
end Go.Pe
