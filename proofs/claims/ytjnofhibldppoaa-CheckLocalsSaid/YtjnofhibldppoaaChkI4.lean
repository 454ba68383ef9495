/-
 CheckLocals: its cases by the kernel (4). No condition.
-/
import Derived.Test.YtjnofhibldppoaaChkH
set_option linter.unusedVariables false
set_option maxRecDepth 100000
namespace Go.Pe
open Go

theorem Nh3 (p q : Int) : [6, 7, 8, 9, 10].map (Ncq p q 1) = [6, 7, 8, 9, 10].map fun _ => lK3v := by kernel_rfl
theorem NiF (p q : Int) : [6, 7, 8, 9, 10].map (Ncq p q 3) = [6, 7, 8, 9, 10].map fun _ => lK3v := by kernel_rfl
theorem Ni0 (p q : Int) : [6, 7, 8, 9, 10].map (Ncq p q 5) = [6, 7, 8, 9, 10].map fun _ => lK3v := by kernel_rfl
theorem NiQ (p q : Int) : [6, 7, 8, 9, 10].map (Ncq p q 7) = [6, 7, 8, 9, 10].map fun _ => lK3v := by kernel_rfl
theorem NhW (p q : Int) : [6, 7, 8, 9, 10].map (Ncq p q 9) = [6, 7, 8, 9, 10].map fun _ => lK3v := by kernel_rfl
end Go.Pe
