/-
 CheckFirst: its cases by the kernel (3). No condition.
-/
import Derived.Test.YtjnofhibldppoaaChkD
set_option linter.unusedVariables false
set_option maxRecDepth 100000
namespace Go.Pe
open Go

theorem Nhk (one two : Int) : firstL.map (fun p => Naj one two p.1 p.2 3 4) = firstL.map fun _ => some (true, .b true) := by kernel_rfl
theorem NgY (one two : Int) : firstL.map (fun p => Naj one two p.1 p.2 3 5) = firstL.map fun _ => some (true, .b true) := by kernel_rfl
theorem Ngt (one two : Int) : firstL.map (fun p => Naj one two p.1 p.2 3 6) = firstL.map fun _ => some (true, .b true) := by kernel_rfl
theorem Nf0 (one two : Int) : firstL.map (fun p => Naj one two p.1 p.2 3 7) = firstL.map fun _ => some (true, .b true) := by kernel_rfl
theorem Ngz (one two : Int) : firstL.map (fun p => Naj one two p.1 p.2 3 8) = firstL.map fun _ => some (true, .b true) := by kernel_rfl
theorem Nhd (one two : Int) : firstL.map (fun p => Naj one two p.1 p.2 3 9) = firstL.map fun _ => some (true, .b true) := by kernel_rfl
theorem NhB (one two : Int) : firstL.map (fun p => Naj one two p.1 p.2 4 0) = firstL.map fun _ => some (true, .b true) := by kernel_rfl
theorem Nh1 (one two : Int) : firstL.map (fun p => Naj one two p.1 p.2 4 1) = firstL.map fun _ => some (true, .b true) := by kernel_rfl
theorem NgR (one two : Int) : firstL.map (fun p => Naj one two p.1 p.2 4 2) = firstL.map fun _ => some (true, .b true) := by kernel_rfl
theorem Nhm (one two : Int) : firstL.map (fun p => Naj one two p.1 p.2 4 3) = firstL.map fun _ => some (true, .b true) := by kernel_rfl
theorem Ng5 (one two : Int) : firstL.map (fun p => Naj one two p.1 p.2 4 5) = firstL.map fun _ => some (true, .b true) := by kernel_rfl
theorem NfW (one two : Int) : firstL.map (fun p => Naj one two p.1 p.2 4 6) = firstL.map fun _ => some (true, .b true) := by kernel_rfl
theorem Ngb (one two : Int) : firstL.map (fun p => Naj one two p.1 p.2 4 7) = firstL.map fun _ => some (true, .b true) := by kernel_rfl
theorem NfJ (one two : Int) : firstL.map (fun p => Naj one two p.1 p.2 4 8) = firstL.map fun _ => some (true, .b true) := by kernel_rfl
theorem Nf6 (one two : Int) : firstL.map (fun p => Naj one two p.1 p.2 4 9) = firstL.map fun _ => some (true, .b true) := by kernel_rfl
end Go.Pe
