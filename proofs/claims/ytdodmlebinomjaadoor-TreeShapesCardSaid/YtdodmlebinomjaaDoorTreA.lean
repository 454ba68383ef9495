/-
 Tree: the chapter's examples, by the kernel. No condition.
-/
import Derived.Test.YtdodmlebinomjaaDoorPe9
import Derived.Test.YtdodmlebinomjaaDoorWordC0
set_option linter.unusedVariables false
set_option linter.unusedSimpArgs false
namespace Go.Pe
open Go

end Go.Pe
set_option maxRecDepth 100000
namespace Go.Pe
open Go Go.Am Go.RowKit

theorem NmV : fvP cfgNx 200 7 [] = some (.b true) := by kernel_rfl
def gAwakeT : List PV → Option PV
 | [] => some (.b true)
 | _ => none
theorem NdY (args : List PV) (r : PV) (h : gAwakeT args = some r) : ∃ fuel, evP cfgNx fuel 7 args = some r := by
 unfold gAwakeT at h
 split at h
 ·rw [← h]
  refine ⟨200, ?_⟩
  have := NmV
  rwa [NdG] at this
 ·cases h
theorem Nfo {cfg : Cfg} {f : FuncId} (hx : cfg.ext f = none) {fuel : Nat} {args : List PV} {r : PV} (ho : Nas args = (args, { sto := .leaf, cnt := 1 })) (hc : ∀ st, NaU st r = some r) (h : ∃ r' st', Nba cfg fuel f args { sto := .leaf, cnt := 1 } = some (r', st') ∧ r' = r) : evP cfg fuel f args = some r := by
 obtain ⟨r', st', h1, h2⟩ := h
 exact Np4 hx ho ⟨r', st', h1, by rw [h2]; exact hc st'⟩
end Go.Pe
