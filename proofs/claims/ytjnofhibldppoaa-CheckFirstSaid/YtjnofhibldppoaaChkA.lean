/-
 CheckKinds, by the interpreter of plain data. No condition.
-/
import Derived.Test.YtjnofhibldppoaaWordC0
import Derived.Test.YtjnofhibldppoaaPeB
import Derived.Test.YtjnofhibldppoaaPeL4
import Derived.Test.YtjnofhibldppoaaView
set_option linter.unusedVariables false
set_option linter.unusedSimpArgs false
set_option maxRecDepth 100000
namespace Go.Pe
open Go Go.Am Go.RowKit

theorem NiR : fvP cfgNx 200 10 [] = some (.b true) := by kernel_rfl
def NdI : List PV → Option PV
 | [] => some (.b true)
 | _ => none
theorem Nd5 (args : List PV) (r : PV) (h : NdI args = some r) : ∃ fuel, evP cfgNx fuel 10 args = some r := by
 unfold NdI at h
 split at h
 ·rw [← h]
  refine ⟨200, ?_⟩
  have := NiR
  rwa [NgC] at this
 ·cases h
theorem NfC {cfg : Cfg} {f : FuncId} (hx : cfg.ext f = none) {fuel : Nat} {args : List PV} {r : PV} (ho : Nav args = (args, { sto := .leaf, cnt := 1 })) (hc : ∀ st, NaV st r = some r) (h : ∃ r' st', NaI cfg fuel f args { sto := .leaf, cnt := 1 } = some (r', st') ∧ r' = r) : evP cfg fuel f args = some r := by
 obtain ⟨r', st', h1, h2⟩ := h
 exact Ni2 hx ho ⟨r', st', h1, by rw [h2]; exact hc st'⟩
def Nl2 : MCode → MCode
 | .seq _ b => b
 | c => c
end Go.Pe
