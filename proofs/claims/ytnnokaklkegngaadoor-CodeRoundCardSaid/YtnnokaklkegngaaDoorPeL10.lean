/-
 The functions of the seat, compiled for the interpreter of plain data, as literals, each compared by the kernel. No condition. (Printed by gen_table.py.)
-/
import Derived.Test.YtnnokaklkegngaaDoorPeTbl
set_option linter.unusedVariables false
set_option maxRecDepth 100000
namespace Go.Pe
open Go Go.Am Go.RowKit
noncomputable def m10 : MFunc := { body := .seq (.region [⟨.t 2, .mv (.c (.i .i64 (.ofNat 0))), none⟩]) (.seq (.seq (.region [⟨.t 3, .mv (.t 0), none⟩]) (.cond (.t 3) (.seq (.region [⟨.t 2, .mv (.c (.i .i64 (.ofNat 1))), none⟩]) .ret) .skip)) (.seq (.region [⟨.t 2, .mv (.c (.i .i64 (.ofNat 0))), none⟩]) .ret)), res := [.t 2] }
theorem t10 : Naj Go.Proofs.Tryd.prog (Nab Go.Proofs.Tryd.prog []) 10 = some m10 := by kernel_rfl
end Go.Pe
