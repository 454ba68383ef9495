/-
 CheckLocals: its cases by the kernel (2). No condition.
-/
import Derived.Test.YtjnofhibldppoaaChkH
set_option linter.unusedVariables false
set_option maxRecDepth 100000
namespace Go.Pe
open Go

theorem NiR (p q : Int) : [6, 7, 8, 9, 10].map (Ncq p q 0) = [6, 7, 8, 9, 10].map fun _ => lK3v := by kernel_rfl
theorem Nic (p q : Int) : [6, 7, 8, 9, 10].map (Ncq p q 2) = [6, 7, 8, 9, 10].map fun _ => lK3v := by kernel_rfl
theorem NiT (p q : Int) : [6, 7, 8, 9, 10].map (Ncq p q 4) = [6, 7, 8, 9, 10].map fun _ => lK3v := by kernel_rfl
theorem Nh6 (p q : Int) : [6, 7, 8, 9, 10].map (Ncq p q 6) = [6, 7, 8, 9, 10].map fun _ => lK3v := by kernel_rfl
theorem Nim (p q : Int) : [6, 7, 8, 9, 10].map (Ncq p q 8) = [6, 7, 8, 9, 10].map fun _ => lK3v := by kernel_rfl
theorem NgZ (p q : Int) : [6, 7, 8, 9, 10].map (Ncq p q 10) = [6, 7, 8, 9, 10].map fun _ => lK3v := by kernel_rfl
end Go.Pe
