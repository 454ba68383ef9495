/-
 Tree: the chapter's examples, by the kernel. No condition.
-/
import Derived.Test.YtdodmlebinomjaaDoorWordC0
import Derived.Test.YtdodmlebinomjaaDoorPeB
set_option linter.unusedVariables false
set_option linter.unusedSimpArgs false
set_option maxRecDepth 100000
namespace Go.Pe
open Go Go.Am Go.RowKit

theorem Ngp : fvP cfgNx 200 7 [] = some (.b true) := by kernel_rfl
def Nd2 : List PV → Option PV
 | [] => some (.b true)
 | _ => none
theorem NdO (args : List PV) (r : PV) (h : Nd2 args = some r) : ∃ fuel, evP cfgNx fuel 7 args = some r := by
 unfold Nd2 at h
 split at h
 ·rw [← h]
  refine ⟨200, ?_⟩
  have := Ngp
  rwa [Ngv] at this
 ·cases h
def NiU : FuncId → Option (List PV → Option PV) := fun f => if f = 40 then some gNext else if f = 7 then some Nd2 else none
theorem NgY {Gl : Gmap} {m : Int} (hg : Gl 1 0 = some (.int .i64 m)) : ∀ f g, NiU f = some g → NaX Go.Proofs.Tryd.prog Gl f g := by
 intro f g h
 unfold NiU at h
 split at h
 ·rename_i e; simp only [Sj] at h; subst h; subst e
  exact NdC (Nej hg)
 split at h
 ·rename_i e; simp only [Sj] at h; subst h; subst e
  exact NhE (NfP hg) NdO
 ·cases h
theorem NgW {cfg : Cfg} {f : FuncId} (hx : cfg.ext f = none) {fuel : Nat} {args : List PV} {r : PV} (ho : Nao args = (args, { sto := .leaf, cnt := 1 })) (hc : ∀ st, NaP st r = some r) (h : ∃ r' st', Nbj cfg fuel f args { sto := .leaf, cnt := 1 } = some (r', st') ∧ r' = r) : evP cfg fuel f args = some r := by
 obtain ⟨r', st', h1, h2⟩ := h
 exact NhV hx ho ⟨r', st', h1, by rw [h2]; exact hc st'⟩
end Go.Pe
