/-
  Words: the token at a place, told by contract, at the seat. No condition.
-/
import Derived.Test.YtjnofhibldppoaaWordsQ
import Derived.Test.YtjnofhibldppoaaShelf
set_option linter.unusedVariables false
namespace Go.Pe
open Go Go.Am Go.RowKit

theorem cfgW0_ok {Gl : Gmap} {m : Int} (hg : Gl 0 0 = some (.int .i64 m)) : CfgOK Go.Proofs.Try.prog Gl cfgW := by
  refine cfg_okt tbl_all ?_
  intro f g h
  unfold extW at h
  split at h
  · rename_i e; simp only [Option.some.injEq] at h; subst h; subst e
    exact contains_ok hg fun s sub m w hs hm => Go.Proofs.Try.strings_Contains s sub m w hs hm
  · split at h
    · rename_i e; simp only [Option.some.injEq] at h; subst h; subst e
      exact count_ok fun s c w => Go.Proofs.Try.strings_Count_one s c w
    · split at h
      · rename_i e; simp only [Option.some.injEq] at h; subst h; subst e
        exact indexByte_ok fun s c w => Go.Proofs.Try.strings_IndexByte s c w
      · simp at h
def extNx : FuncId → Option (List PV → Option PV) := fun f => if f = 64 then some gNext else none
theorem extNx_ok {Gl : Gmap} {m : Int} (hg : Gl 0 0 = some (.int .i64 m)) : ∀ f g, extNx f = some g → PureOK Go.Proofs.Try.prog Gl f g := by
  intro f g h
  unfold extNx at h
  split at h
  · rename_i e; simp only [Option.some.injEq] at h; subst h; subst e
    exact next_pure (cfgW0_ok hg)
  · cases h
noncomputable def cfgNx : Cfg := { fn := fun f => lookT f tblL, ext := extNx }
theorem cfgNx_ok {Gl : Gmap} {m : Int} (hg : Gl 0 0 = some (.int .i64 m)) : CfgOK Go.Proofs.Try.prog Gl cfgNx := cfg_okt tbl_all (extNx_ok hg)
theorem maxLen_cell {w : World} (h : w.ShapedOpen Go.Proofs.Try.prog) : ∃ m, w.cell? ⟨0, 0, none⟩ = some (.int .i64 m) := Go.Proofs.Try.laysM144.s1_3 w h
end Go.Pe
