/-
 CheckFirst: its cases by the kernel (4). No condition.
-/
import Derived.Test.YtjnofhibldppoaaChkD
set_option linter.unusedVariables false
set_option maxRecDepth 100000
namespace Go.Pe
open Go

theorem NhL (one two : Int) : firstL.map (fun p => Naj one two p.1 p.2 5 0) = firstL.map fun _ => some (true, .b true) := by kernel_rfl
theorem NgJ (one two : Int) : firstL.map (fun p => Naj one two p.1 p.2 5 1) = firstL.map fun _ => some (true, .b true) := by kernel_rfl
theorem NgM (one two : Int) : firstL.map (fun p => Naj one two p.1 p.2 5 2) = firstL.map fun _ => some (true, .b true) := by kernel_rfl
theorem Ngu (one two : Int) : firstL.map (fun p => Naj one two p.1 p.2 5 3) = firstL.map fun _ => some (true, .b true) := by kernel_rfl
theorem NgX (one two : Int) : firstL.map (fun p => Naj one two p.1 p.2 5 4) = firstL.map fun _ => some (true, .b true) := by kernel_rfl
theorem Nhi (one two : Int) : firstL.map (fun p => Naj one two p.1 p.2 5 6) = firstL.map fun _ => some (true, .b true) := by kernel_rfl
theorem Ngr (one two : Int) : firstL.map (fun p => Naj one two p.1 p.2 5 7) = firstL.map fun _ => some (true, .b true) := by kernel_rfl
theorem Nhf (one two : Int) : firstL.map (fun p => Naj one two p.1 p.2 5 8) = firstL.map fun _ => some (true, .b true) := by kernel_rfl
theorem NhR (one two : Int) : firstL.map (fun p => Naj one two p.1 p.2 5 9) = firstL.map fun _ => some (true, .b true) := by kernel_rfl
theorem Ngy (one two : Int) : firstL.map (fun p => Naj one two p.1 p.2 6 0) = firstL.map fun _ => some (true, .b true) := by kernel_rfl
theorem Nhx (one two : Int) : firstL.map (fun p => Naj one two p.1 p.2 6 1) = firstL.map fun _ => some (true, .b true) := by kernel_rfl
theorem Nf5 (one two : Int) : firstL.map (fun p => Naj one two p.1 p.2 6 2) = firstL.map fun _ => some (true, .b true) := by kernel_rfl
theorem NfR (one two : Int) : firstL.map (fun p => Naj one two p.1 p.2 6 3) = firstL.map fun _ => some (true, .b true) := by kernel_rfl
theorem NgK (one two : Int) : firstL.map (fun p => Naj one two p.1 p.2 6 4) = firstL.map fun _ => some (true, .b true) := by kernel_rfl
theorem Nhn (one two : Int) : firstL.map (fun p => Naj one two p.1 p.2 6 5) = firstL.map fun _ => some (true, .b true) := by kernel_rfl
end Go.Pe
