/-
 What the laws of events share. No condition.
-/
import Derived.Test.YtadblicfhhllgaaEvtI
import Derived.Test.YtadblicfhhllgaaEvtW
import Derived.Test.YtadblicfhhllgaaEvtAr
set_option linter.unusedVariables false
set_option linter.unusedSimpArgs false
namespace Go.Pe
open Go Go.Am Go.RowKit

end Go.Pe
