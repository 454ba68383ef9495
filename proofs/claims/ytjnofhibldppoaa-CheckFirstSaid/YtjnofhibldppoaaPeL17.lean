/-
 The functions of the seat, compiled for the interpreter of plain data, as literals, each compared by the kernel. No condition. (Printed by gen_table.py.)
-/
import Derived.Test.YtjnofhibldppoaaPeTbl
set_option linter.unusedVariables false
set_option maxRecDepth 100000
namespace Go.Pe
open Go Go.Am Go.RowKit
noncomputable def m17 : MFunc := { body := .seq (.region [⟨.t 2, .box (.t 0), none⟩, ⟨.t 4, .alloc [.i .u8 (.ofNat 0), .i .u8 (.ofNat 0), .s [], .s [], .i .i64 (.ofNat 0), .nsl, .nsl, .nsl, .i .i64 (.ofNat 0)], none⟩]) (.seq (.seq (.region [⟨.l 5, .mv (.t 1), none⟩, ⟨.t 6, .un .not (.l 5), none⟩]) (.cond (.t 6) (.seq (.region [⟨.l 7, .load true 9 (.t 2), none⟩, ⟨.no, .store 9 (.t 4) (.l 7), none⟩]) .ret) .skip)) (.seq (.region [⟨.l 8, .load true 9 (.t 2), none⟩, ⟨.l 9, .bslice 1 9 [.i .u8 (.ofNat 0), .i .u8 (.ofNat 0), .s [], .s [], .i .i64 (.ofNat 0), .nsl, .nsl, .nsl, .i .i64 (.ofNat 0)] [(0, 9, .l 8)], none⟩, ⟨.l 10, .build [.i .u8 (.ofNat 0), .i .u8 (.ofNat 0), .s [], .s [], .i .i64 (.ofNat 0), .nsl, .nsl, .nsl, .i .i64 (.ofNat 0)] [(0, 1, .c (.i .u8 (.ofNat 3))), (4, 1, .c (.i .i64 (.ofNat 1))), (6, 1, .l 9), (8, 1, .c (.i .i64 (.ofNat 50)))], none⟩, ⟨.no, .store 9 (.t 4) (.l 10), none⟩]) .ret)), res := [.cell 4 true 9] }
theorem t17 : Nar Go.Proofs.Try.prog (Nai Go.Proofs.Try.prog []) 17 = some m17 := by kernel_rfl
end Go.Pe
