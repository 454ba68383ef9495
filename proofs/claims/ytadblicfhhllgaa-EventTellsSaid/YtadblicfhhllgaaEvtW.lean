/-
 Events: a frame of which some bytes next to each other are others. Plain mathematics. No condition.
-/
import Derived.Test.YtadblicfhhllgaaEvtO
import Derived.Test.YtadblicfhhllgaaCrcN
set_option linter.unusedVariables false
set_option linter.unusedSimpArgs false
namespace Go.Pe
open Go Go.Am Go.RowKit

theorem Nme (x e : Ev) : 5 ≤ (pt x e).length := by
 have h1 := NaM x.T e.T
 have h2 := NaM x.J e.J
 have h3 := NaM x.A e.A
 have h4 := NaM x.B e.B
 unfold pt
 simp only [List.length_cons, List.length_append]
 omega
end Go.Pe
