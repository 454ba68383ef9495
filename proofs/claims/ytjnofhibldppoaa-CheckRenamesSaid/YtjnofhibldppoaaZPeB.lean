/-
 Runs by the kernel within runs over plain data. No condition; nothing of the program.
-/
import Derived.Test.YtjnofhibldppoaaZPe9
set_option linter.unusedVariables false
set_option linter.unusedSimpArgs false
namespace Go.Pe
open Go
end Go.Pe
