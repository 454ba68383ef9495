/-
 Bytes among plain data: slices of bytes handed in and out. No condition; nothing of the program.
-/
import Derived.Test.YtaepgkghgcchnaaDoorPe4
set_option linter.unusedVariables false
set_option linter.unusedSimpArgs false
namespace Go.Pe
open Go

end Go.Pe
