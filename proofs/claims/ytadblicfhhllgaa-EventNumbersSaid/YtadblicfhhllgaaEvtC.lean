/-
  Events: the calls of the laws, told by contracts, at the seat. No condition.
-/
import Derived.Test.YtadblicfhhllgaaEvtA
import Derived.Test.YtadblicfhhllgaaEvtS2
set_option linter.unusedVariables false
namespace Go.Pe
open Go Go.Am Go.RowKit

theorem cfgE3_ok {Gl : Gmap} : CfgOK Go.Proofs.Try.prog Gl cfgE3 := by
  refine cfg_okt tbl_all ?_
  intro f g h
  unfold extE3 at h
  split at h
  · rename_i e; simp only [Option.some.injEq] at h; subst h; subst e
    exact pure_of cfgE2_ok put_any
  split at h
  · rename_i e; simp only [Option.some.injEq] at h; subst h; subst e
    exact pure_of cfgE0_ok same_any
  split at h
  · rename_i e; simp only [Option.some.injEq] at h; subst h; subst e
    exact grow_ok
  · simp at h
theorem cfgE4_ok {Gl : Gmap} : CfgOK Go.Proofs.Try.prog Gl cfgE4 := by
  refine cfg_okt tbl_all ?_
  intro f g h
  unfold extE4 at h
  split at h
  · rename_i e; simp only [Option.some.injEq] at h; subst h; subst e
    exact pure_of cfgE2_ok put_any
  split at h
  · rename_i e; simp only [Option.some.injEq] at h; subst h; subst e
    exact pure_of cfgE0_ok same_any
  split at h
  · rename_i e; simp only [Option.some.injEq] at h; subst h; subst e
    exact pure_of cfgE0_ok up_any
  split at h
  · rename_i e; simp only [Option.some.injEq] at h; subst h; subst e
    exact pure_of cfgE3_ok eawake_any
  · simp at h
end Go.Pe
