/-
  Events: the calls of the laws, told by contracts, at the seat. No condition.
-/
import Derived.Test.YtadblicfhhllgaaEvtA
set_option linter.unusedVariables false
namespace Go.Pe
open Go Go.Am Go.RowKit

theorem cfgE0_ok {Gl : Gmap} : CfgOK Go.Proofs.Try.prog Gl cfgE0 := cfg_okt tbl_all fun f g h => by simp at h
theorem cfgE1_ok {Gl : Gmap} : CfgOK Go.Proofs.Try.prog Gl cfgE1 := by
  refine cfg_okt tbl_all ?_
  intro f g h
  unfold extE1 at h
  split at h
  · rename_i e; simp only [Option.some.injEq] at h; subst h; subst e
    exact pure_of cfgE0_ok fold_any
  split at h
  · rename_i e; simp only [Option.some.injEq] at h; subst h; subst e
    exact pure_of cfgE0_ok uint_any
  · simp at h
theorem cfgE2_ok {Gl : Gmap} : CfgOK Go.Proofs.Try.prog Gl cfgE2 := by
  refine cfg_okt tbl_all ?_
  intro f g h
  unfold extE2 at h
  split at h
  · rename_i e; simp only [Option.some.injEq] at h; subst h; subst e
    exact pure_of cfgE1_ok int_any
  · simp at h
theorem cfgE3_ok {Gl : Gmap} : CfgOK Go.Proofs.Try.prog Gl cfgE3 := by
  refine cfg_okt tbl_all ?_
  intro f g h
  unfold extE3 at h
  split at h
  · rename_i e; simp only [Option.some.injEq] at h; subst h; subst e
    exact pure_of cfgE2_ok put_any
  split at h
  · rename_i e; simp only [Option.some.injEq] at h; subst h; subst e
    exact pure_of cfgE0_ok same_any
  split at h
  · rename_i e; simp only [Option.some.injEq] at h; subst h; subst e
    exact grow_ok
  · simp at h
theorem cfgE4_ok {Gl : Gmap} : CfgOK Go.Proofs.Try.prog Gl cfgE4 := by
  refine cfg_okt tbl_all ?_
  intro f g h
  unfold extE4 at h
  split at h
  · rename_i e; simp only [Option.some.injEq] at h; subst h; subst e
    exact pure_of cfgE2_ok put_any
  split at h
  · rename_i e; simp only [Option.some.injEq] at h; subst h; subst e
    exact pure_of cfgE0_ok same_any
  split at h
  · rename_i e; simp only [Option.some.injEq] at h; subst h; subst e
    exact pure_of cfgE0_ok up_any
  split at h
  · rename_i e; simp only [Option.some.injEq] at h; subst h; subst e
    exact pure_of cfgE3_ok eawake_any
  · simp at h
end Go.Pe
