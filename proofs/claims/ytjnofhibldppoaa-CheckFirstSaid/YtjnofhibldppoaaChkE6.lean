/-
 CheckFirst: its cases by the kernel (6). No condition.
-/
import Derived.Test.YtjnofhibldppoaaChkD
set_option linter.unusedVariables false
set_option maxRecDepth 100000
namespace Go.Pe
open Go

theorem NhT (one two : Int) : firstL.map (fun p => Naj one two p.1 p.2 8 3) = firstL.map fun _ => some (true, .b true) := by kernel_rfl
theorem Ng9 (one two : Int) : firstL.map (fun p => Naj one two p.1 p.2 8 4) = firstL.map fun _ => some (true, .b true) := by kernel_rfl
theorem NhU (one two : Int) : firstL.map (fun p => Naj one two p.1 p.2 8 5) = firstL.map fun _ => some (true, .b true) := by kernel_rfl
theorem Ngo (one two : Int) : firstL.map (fun p => Naj one two p.1 p.2 8 6) = firstL.map fun _ => some (true, .b true) := by kernel_rfl
theorem Nhu (one two : Int) : firstL.map (fun p => Naj one two p.1 p.2 8 7) = firstL.map fun _ => some (true, .b true) := by kernel_rfl
theorem Ngj (one two : Int) : firstL.map (fun p => Naj one two p.1 p.2 8 9) = firstL.map fun _ => some (true, .b true) := by kernel_rfl
theorem NgB (one two : Int) : firstL.map (fun p => Naj one two p.1 p.2 9 0) = firstL.map fun _ => some (true, .b true) := by kernel_rfl
theorem Nhh (one two : Int) : firstL.map (fun p => Naj one two p.1 p.2 9 1) = firstL.map fun _ => some (true, .b true) := by kernel_rfl
theorem NfO (one two : Int) : firstL.map (fun p => Naj one two p.1 p.2 9 2) = firstL.map fun _ => some (true, .b true) := by kernel_rfl
theorem Ngk (one two : Int) : firstL.map (fun p => Naj one two p.1 p.2 9 3) = firstL.map fun _ => some (true, .b true) := by kernel_rfl
theorem NhW (one two : Int) : firstL.map (fun p => Naj one two p.1 p.2 9 4) = firstL.map fun _ => some (true, .b true) := by kernel_rfl
theorem Nhb (one two : Int) : firstL.map (fun p => Naj one two p.1 p.2 9 5) = firstL.map fun _ => some (true, .b true) := by kernel_rfl
theorem NhV (one two : Int) : firstL.map (fun p => Naj one two p.1 p.2 9 6) = firstL.map fun _ => some (true, .b true) := by kernel_rfl
theorem NgS (one two : Int) : firstL.map (fun p => Naj one two p.1 p.2 9 7) = firstL.map fun _ => some (true, .b true) := by kernel_rfl
theorem Ng2 (one two : Int) : firstL.map (fun p => Naj one two p.1 p.2 9 8) = firstL.map fun _ => some (true, .b true) := by kernel_rfl
end Go.Pe
