/-
 Code: the chapter's examples, by the kernel. No condition.
-/
import Derived.Test.YtnnokaklkegngaaDoorWordC0
import Derived.Test.YtnnokaklkegngaaDoorPeB
set_option linter.unusedVariables false
set_option linter.unusedSimpArgs false
set_option maxRecDepth 100000
namespace Go.Pe
open Go Go.Am Go.RowKit

theorem Nfa : fvP cfgNx 200 11 [] = some (.b true) := by kernel_rfl
def Ndl : List PV → Option PV
 | [] => some (.b true)
 | _ => none
theorem Ndg (args : List PV) (r : PV) (h : Ndl args = some r) : ∃ fuel, evP cfgNx fuel 11 args = some r := by
 unfold Ndl at h
 split at h
 ·rw [← h]
  refine ⟨200, ?_⟩
  have := Nfa
  rwa [Nfv] at this
 ·cases h
def Nix : FuncId → Option (List PV → Option PV) := fun f => if f = 45 then some gNext else if f = 11 then some Ndl else none
theorem NgN {Gl : Gmap} {m : Int} (hg : Gl 0 0 = some (.int .i64 m)) : ∀ f g, Nix f = some g → Na3 Go.Proofs.Tryd.prog Gl f g := by
 intro f g h
 unfold Nix at h
 split at h
 ·rename_i e; simp only [Sj] at h; subst h; subst e
  exact Ndz (Neg hg)
 split at h
 ·rename_i e; simp only [Sj] at h; subst h; subst e
  exact Ne0 (Nes hg) Ndg
 ·cases h
theorem NgY {cfg : Cfg} {f : FuncId} (hx : cfg.ext f = none) {fuel : Nat} {args : List PV} {r : PV} (ho : Naq args = (args, { sto := .leaf, cnt := 1 })) (hc : ∀ st, NaR st r = some r) (h : ∃ r' st', Na5 cfg fuel f args { sto := .leaf, cnt := 1 } = some (r', st') ∧ r' = r) : evP cfg fuel f args = some r := by
 obtain ⟨r', st', h1, h2⟩ := h
 exact NgB hx ho ⟨r', st', h1, by rw [h2]; exact hc st'⟩
end Go.Pe
