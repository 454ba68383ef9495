/-
 CheckFirst: its cases by the kernel (1). No condition.
-/
import Derived.Test.YtjnofhibldppoaaChkD
set_option linter.unusedVariables false
set_option maxRecDepth 100000
namespace Go.Pe
open Go

theorem Ngf (one two : Int) : firstL.map (fun p => Naj one two p.1 p.2 0 1) = firstL.map fun _ => some (true, .b true) := by kernel_rfl
theorem Nhw (one two : Int) : firstL.map (fun p => Naj one two p.1 p.2 0 2) = firstL.map fun _ => some (true, .b true) := by kernel_rfl
theorem NgG (one two : Int) : firstL.map (fun p => Naj one two p.1 p.2 0 3) = firstL.map fun _ => some (true, .b true) := by kernel_rfl
theorem NgF (one two : Int) : firstL.map (fun p => Naj one two p.1 p.2 0 4) = firstL.map fun _ => some (true, .b true) := by kernel_rfl
theorem Ngh (one two : Int) : firstL.map (fun p => Naj one two p.1 p.2 0 5) = firstL.map fun _ => some (true, .b true) := by kernel_rfl
theorem NfM (one two : Int) : firstL.map (fun p => Naj one two p.1 p.2 0 6) = firstL.map fun _ => some (true, .b true) := by kernel_rfl
theorem NfU (one two : Int) : firstL.map (fun p => Naj one two p.1 p.2 0 7) = firstL.map fun _ => some (true, .b true) := by kernel_rfl
theorem NhX (one two : Int) : firstL.map (fun p => Naj one two p.1 p.2 0 8) = firstL.map fun _ => some (true, .b true) := by kernel_rfl
theorem NfX (one two : Int) : firstL.map (fun p => Naj one two p.1 p.2 0 9) = firstL.map fun _ => some (true, .b true) := by kernel_rfl
theorem NhZ (one two : Int) : firstL.map (fun p => Naj one two p.1 p.2 1 0) = firstL.map fun _ => some (true, .b true) := by kernel_rfl
theorem NfY (one two : Int) : firstL.map (fun p => Naj one two p.1 p.2 1 2) = firstL.map fun _ => some (true, .b true) := by kernel_rfl
theorem Ngx (one two : Int) : firstL.map (fun p => Naj one two p.1 p.2 1 3) = firstL.map fun _ => some (true, .b true) := by kernel_rfl
theorem Nga (one two : Int) : firstL.map (fun p => Naj one two p.1 p.2 1 4) = firstL.map fun _ => some (true, .b true) := by kernel_rfl
theorem NfH (one two : Int) : firstL.map (fun p => Naj one two p.1 p.2 1 5) = firstL.map fun _ => some (true, .b true) := by kernel_rfl
theorem Nhs (one two : Int) : firstL.map (fun p => Naj one two p.1 p.2 1 6) = firstL.map fun _ => some (true, .b true) := by kernel_rfl
end Go.Pe
