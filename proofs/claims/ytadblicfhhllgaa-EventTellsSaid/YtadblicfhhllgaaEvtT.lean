/-
 Events: the chapter's examples; the laws of two events beside one. No condition.
-/
import Derived.Test.YtadblicfhhllgaaEvtS2
import Derived.Test.YtadblicfhhllgaaEvtG
import Derived.Test.YtadblicfhhllgaaEvtA0
set_option linter.unusedVariables false
set_option linter.unusedSimpArgs false
set_option maxRecDepth 100000
namespace Go.Pe
open Go Go.Am Go.RowKit

def NoD : FuncId → Option (List PV → Option PV) := fun f => if f = 10 then some gPut else if f = 12 then some gSame else if f = 54 then some gGrow else none
noncomputable def cfgE3 : Cfg := { fn := fun f => NbX f tblL, ext := NoD }
theorem Ni7 : fvP cfgE3 60 17 [] = some (.b true) := by kernel_rfl
def gAwake : List PV → Option PV
 | [] => some (.b true)
 | _ => none
theorem Ni5 (args : List PV) (r : PV) (h : gAwake args = some r) : ∃ fuel, evP cfgE3 fuel 17 args = some r := by
 unfold gAwake at h
 split at h
 ·rw [← h]
  refine ⟨60, ?_⟩
  have := Ni7
  rwa [Nov] at this
 ·simp at h
end Go.Pe
