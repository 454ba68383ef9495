/-
 The functions of the seat, compiled for the interpreter of plain data, as literals, each compared by the kernel. No condition. (Printed by gen_table.py.)
-/
import Derived.Test.YtnnokaklkegngaaDoorPeTbl
set_option linter.unusedVariables false
set_option maxRecDepth 100000
namespace Go.Pe
open Go Go.Am Go.RowKit
noncomputable def m8 : MFunc := { body := .seq (.region [⟨.t 4, .mv (.c (.i .i64 (.ofNat 0))), none⟩]) (.seq (.region [⟨.l 5, .fieldAddr 1 (.t 1), none⟩, ⟨.l 6, .load false 1 (.l 5), none⟩, ⟨.l 7, .indexAddr none 3 (.l 6) (.c (.i .i64 (.ofNat 0))), none⟩, ⟨.l 8, .fieldAddr 2 (.l 7), none⟩, ⟨.l 9, .load false 1 (.l 8), none⟩, ⟨.l 10, .mv (.t 0), none⟩, ⟨.l 11, .indexAddr none 7 (.l 9) (.l 10), none⟩, ⟨.l 12, .fieldAddr 6 (.l 11), none⟩, ⟨.l 13, .load false 1 (.l 12), none⟩, ⟨.l 14, .indexAddr none 4 (.l 13) (.c (.i .i64 (.ofNat 0))), none⟩, ⟨.l 15, .load true 4 (.l 14), none⟩, ⟨.l 16, .load false 1 (.t 2), none⟩, ⟨.l 17, .callq 9 [.l 15, .l 16], none⟩, ⟨.t 4, .mv (.l 17), none⟩]) .ret), res := [.t 4] }
theorem t8 : Naj Go.Proofs.Tryd.prog (Nab Go.Proofs.Tryd.prog []) 8 = some m8 := by kernel_rfl
end Go.Pe
