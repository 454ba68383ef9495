/-
 CheckFirst: its cases by the kernel (2). No condition.
-/
import Derived.Test.YtjnofhibldppoaaChkD
set_option linter.unusedVariables false
set_option maxRecDepth 100000
namespace Go.Pe
open Go

theorem NhA (one two : Int) : firstL.map (fun p => Naj one two p.1 p.2 1 7) = firstL.map fun _ => some (true, .b true) := by kernel_rfl
theorem NgW (one two : Int) : firstL.map (fun p => Naj one two p.1 p.2 1 8) = firstL.map fun _ => some (true, .b true) := by kernel_rfl
theorem Nhv (one two : Int) : firstL.map (fun p => Naj one two p.1 p.2 1 9) = firstL.map fun _ => some (true, .b true) := by kernel_rfl
theorem NhK (one two : Int) : firstL.map (fun p => Naj one two p.1 p.2 2 0) = firstL.map fun _ => some (true, .b true) := by kernel_rfl
theorem NfI (one two : Int) : firstL.map (fun p => Naj one two p.1 p.2 2 1) = firstL.map fun _ => some (true, .b true) := by kernel_rfl
theorem NgZ (one two : Int) : firstL.map (fun p => Naj one two p.1 p.2 2 3) = firstL.map fun _ => some (true, .b true) := by kernel_rfl
theorem NhI (one two : Int) : firstL.map (fun p => Naj one two p.1 p.2 2 4) = firstL.map fun _ => some (true, .b true) := by kernel_rfl
theorem NhD (one two : Int) : firstL.map (fun p => Naj one two p.1 p.2 2 5) = firstL.map fun _ => some (true, .b true) := by kernel_rfl
theorem Nha (one two : Int) : firstL.map (fun p => Naj one two p.1 p.2 2 6) = firstL.map fun _ => some (true, .b true) := by kernel_rfl
theorem NgI (one two : Int) : firstL.map (fun p => Naj one two p.1 p.2 2 7) = firstL.map fun _ => some (true, .b true) := by kernel_rfl
theorem Nhl (one two : Int) : firstL.map (fun p => Naj one two p.1 p.2 2 8) = firstL.map fun _ => some (true, .b true) := by kernel_rfl
theorem Nf7 (one two : Int) : firstL.map (fun p => Naj one two p.1 p.2 2 9) = firstL.map fun _ => some (true, .b true) := by kernel_rfl
theorem Ngm (one two : Int) : firstL.map (fun p => Naj one two p.1 p.2 3 0) = firstL.map fun _ => some (true, .b true) := by kernel_rfl
theorem NhP (one two : Int) : firstL.map (fun p => Naj one two p.1 p.2 3 1) = firstL.map fun _ => some (true, .b true) := by kernel_rfl
theorem NhE (one two : Int) : firstL.map (fun p => Naj one two p.1 p.2 3 2) = firstL.map fun _ => some (true, .b true) := by kernel_rfl
end Go.Pe
