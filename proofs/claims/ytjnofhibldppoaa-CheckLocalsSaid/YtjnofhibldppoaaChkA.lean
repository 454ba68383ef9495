/-
 CheckKinds, by the interpreter of plain data. No condition.
-/
import Derived.Test.YtjnofhibldppoaaWordC0
import Derived.Test.YtjnofhibldppoaaPeB
import Derived.Test.YtjnofhibldppoaaPeL4
import Derived.Test.YtjnofhibldppoaaView
set_option linter.unusedVariables false
set_option linter.unusedSimpArgs false
set_option maxRecDepth 100000
namespace Go.Pe
open Go Go.Am Go.RowKit

theorem Ng8 : fvP cfgNx 200 10 [] = some (.b true) := by kernel_rfl
def NeC : List PV → Option PV
 | [] => some (.b true)
 | _ => none
theorem NdY (args : List PV) (r : PV) (h : NeC args = some r) : ∃ fuel, evP cfgNx fuel 10 args = some r := by
 unfold NeC at h
 split at h
 ·rw [← h]
  refine ⟨200, ?_⟩
  have := Ng8
  rwa [NhP] at this
 ·cases h
theorem NgG {cfg : Cfg} {f : FuncId} (hx : cfg.ext f = none) {fuel : Nat} {args : List PV} {r : PV} (ho : Nav args = (args, { sto := .leaf, cnt := 1 })) (hc : ∀ st, NaY st r = some r) (h : ∃ r' st', Nas cfg fuel f args { sto := .leaf, cnt := 1 } = some (r', st') ∧ r' = r) : evP cfg fuel f args = some r := by
 obtain ⟨r', st', h1, h2⟩ := h
 exact NhN hx ho ⟨r', st', h1, by rw [h2]; exact hc st'⟩
def Ndj : MCode → MCode
 | .seq _ b => b
 | c => c
def Ngt : MCode → MCode
 | .seq a _ => a
 | c => c
end Go.Pe
