/-
 The functions of the seat, compiled for the interpreter of plain data, as literals, each compared by the kernel. No condition. (Printed by gen_table.py.)
-/
import Derived.Test.YtjnofhibldppoaaZPeTbl
set_option linter.unusedVariables false
set_option maxRecDepth 100000
namespace Go.Pe
open Go Go.Am Go.RowKit
theorem t4:Qx 4=some (Qj 4):=Qy (by kernel_rfl)
end Go.Pe
