/-
 Events: calls by value: an event laid out, an event moved. No condition.
-/
import Derived.Test.YtogdkhejfkbnmaaEvtQ
import Derived.Test.YtogdkhejfkbnmaaEvtS
set_option linter.unusedVariables false
set_option linter.unusedSimpArgs false
namespace Go.Pe
open Go Go.Am Go.RowKit

theorem Nbg {Gl : Gmap} : CfgOK Go.Proofs.Try.prog Gl cfgE0 := NaP NaQ fun f g h => by simp at h
theorem NnR {Gl : Gmap} : CfgOK Go.Proofs.Try.prog Gl cfgE1 := by
 refine NaP NaQ ?_
 intro f g h
 unfold Nq3 at h
 split at h
 ·rename_i e; simp only [Sj] at h; subst h; subst e
  exact Nam Nbg NnL
 split at h
 ·rename_i e; simp only [Sj] at h; subst h; subst e
  exact Nam Nbg NjF
 ·simp at h
end Go.Pe
