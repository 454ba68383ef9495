/-
 Events: two unlike ones have unlike bytes. No condition.
-/
import Derived.Test.YtadblicfhhllgaaEvtT
import Derived.Test.YtadblicfhhllgaaEvtA0
set_option linter.unusedVariables false
set_option linter.unusedSimpArgs false
namespace Go.Pe
open Go Go.Am Go.RowKit

end Go.Pe
