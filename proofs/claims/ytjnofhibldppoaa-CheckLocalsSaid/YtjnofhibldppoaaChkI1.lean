/-
 CheckLocals: its cases by the kernel (1). No condition.
-/
import Derived.Test.YtjnofhibldppoaaChkH
set_option linter.unusedVariables false
set_option maxRecDepth 100000
namespace Go.Pe
open Go

theorem Nja (p q : Int) : [0, 1, 2, 3, 4, 5].map (Ncq p q 0) = [0, 1, 2, 3, 4, 5].map fun _ => lK3v := by kernel_rfl
theorem NiZ (p q : Int) : [0, 1, 2, 3, 4, 5].map (Ncq p q 2) = [0, 1, 2, 3, 4, 5].map fun _ => lK3v := by kernel_rfl
theorem NiD (p q : Int) : [0, 1, 2, 3, 4, 5].map (Ncq p q 4) = [0, 1, 2, 3, 4, 5].map fun _ => lK3v := by kernel_rfl
theorem NiE (p q : Int) : [0, 1, 2, 3, 4, 5].map (Ncq p q 6) = [0, 1, 2, 3, 4, 5].map fun _ => lK3v := by kernel_rfl
theorem Nix (p q : Int) : [0, 1, 2, 3, 4, 5].map (Ncq p q 8) = [0, 1, 2, 3, 4, 5].map fun _ => lK3v := by kernel_rfl
theorem Nhe (p q : Int) : [0, 1, 2, 3, 4, 5].map (Ncq p q 10) = [0, 1, 2, 3, 4, 5].map fun _ => lK3v := by kernel_rfl
end Go.Pe
