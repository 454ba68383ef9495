/-
 Events: the calls of the laws, told by contracts, at the seat. No condition.
-/
import Derived.Test.YtadblicfhhllgaaEvtA
import Derived.Test.YtadblicfhhllgaaEvtS2
set_option linter.unusedVariables false
namespace Go.Pe
open Go Go.Am Go.RowKit

theorem Nlz {Gl : Gmap} : CfgOK Go.Proofs.Try.prog Gl cfgE3 := by
 refine Na7 Na5 ?_
 intro f g h
 unfold NoD at h
 split at h
 ·rename_i e; simp only [Sj] at h; subst h; subst e
  exact Nao NfR NhB
 split at h
 ·rename_i e; simp only [Sj] at h; subst h; subst e
  exact Nao NbA Nig
 split at h
 ·rename_i e; simp only [Sj] at h; subst h; subst e
  exact NjM
 ·simp at h
end Go.Pe
