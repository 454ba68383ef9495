/-
 Words: the token at a place, told by contract, at the seat. No condition.
-/
import Derived.Test.YtaepgkghgcchnaaDoorWordsQ
import Derived.Test.YtaepgkghgcchnaaDoorShelf
set_option linter.unusedVariables false
namespace Go.Pe
open Go Go.Am Go.RowKit

theorem NeP {Gl : Gmap} {m : Int} (hg : Gl 2 0 = some (.int .i64 m)) : CfgOK Go.Proofs.Tryd.prog Gl cfgW := by
 refine Neo NeN ?_
 intro f g h
 unfold NlN at h
 split at h
 ·rename_i e; simp only [Sj] at h; subst h; subst e
  exact Nes hg fun s sub m w hs hm => Go.Proofs.Tryd.strings_Contains s sub m w hs hm
 ·split at h
  ·rename_i e; simp only [Sj] at h; subst h; subst e
   exact NgH fun s c w => Go.Proofs.Tryd.strings_Count_one s c w
  ·split at h
   ·rename_i e; simp only [Sj] at h; subst h; subst e
    exact Nd1 fun s c w => Go.Proofs.Tryd.strings_IndexByte s c w
   ·simp at h
theorem NeC {w : World} (h : w.ShapedOpen Go.Proofs.Tryd.prog) : ∃ m, w.cell? ⟨2, 0, none⟩ = some (.int .i64 m) := Go.Proofs.Tryd.laysM144.s1_3 w h
end Go.Pe
