/-
 Words: digits, one behind the other, as an int. Plain. No condition.
-/
import Derived.Test.YtaepgkghgcchnaaDoorWordsG
import Derived.Test.YtaepgkghgcchnaaDoorWordsS
set_option linter.unusedVariables false
set_option linter.unusedSimpArgs false
namespace Go.Pe
open Go Go.Am Go.RowKit

theorem digs.append {a b : List UInt8} (h : digs a) (k : digs b) : digs (a ++ b) := fun c hc => (List.mem_append.1 hc).elim (h c) (k c)
theorem digs.take {a : List UInt8} (h : digs a) (n : Nat) : digs (a.take n) := fun c hc => h c (List.mem_of_mem_take hc)
end Go.Pe
