/-
 Words: numbers by their value; the document's answer as one function: it is the program's. No condition.
-/
import Derived.Test.YtaepgkghgcchnaaDoorWordsD
set_option linter.unusedVariables false
set_option linter.unusedSimpArgs false
namespace Go.Pe
open Go Go.Am Go.RowKit

def digs (l : List UInt8) : Prop := ∀ c ∈ l, 48 ≤ c.toNat ∧ c.toNat ≤ 57
theorem digs.tail {c : UInt8} {r : List UInt8} (h : digs (c :: r)) : digs r := fun x hx => h x (List.mem_cons_of_mem _ hx)
theorem digs.head {c : UInt8} {r : List UInt8} (h : digs (c :: r)) : 48 ≤ c.toNat ∧ c.toNat ≤ 57 := h c List.mem_cons_self
end Go.Pe
