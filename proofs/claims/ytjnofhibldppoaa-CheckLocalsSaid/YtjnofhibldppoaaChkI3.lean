/-
 CheckLocals: its cases by the kernel (3). No condition.
-/
import Derived.Test.YtjnofhibldppoaaChkH
set_option linter.unusedVariables false
set_option maxRecDepth 100000
namespace Go.Pe
open Go

theorem Njb (p q : Int) : [0, 1, 2, 3, 4, 5].map (Ncq p q 1) = [0, 1, 2, 3, 4, 5].map fun _ => lK3v := by kernel_rfl
theorem Ni9 (p q : Int) : [0, 1, 2, 3, 4, 5].map (Ncq p q 3) = [0, 1, 2, 3, 4, 5].map fun _ => lK3v := by kernel_rfl
theorem Niq (p q : Int) : [0, 1, 2, 3, 4, 5].map (Ncq p q 5) = [0, 1, 2, 3, 4, 5].map fun _ => lK3v := by kernel_rfl
theorem Nh8 (p q : Int) : [0, 1, 2, 3, 4, 5].map (Ncq p q 7) = [0, 1, 2, 3, 4, 5].map fun _ => lK3v := by kernel_rfl
theorem Nip (p q : Int) : [0, 1, 2, 3, 4, 5].map (Ncq p q 9) = [0, 1, 2, 3, 4, 5].map fun _ => lK3v := by kernel_rfl
end Go.Pe
