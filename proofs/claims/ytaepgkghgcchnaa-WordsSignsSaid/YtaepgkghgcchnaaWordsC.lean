/-
  Words: the calls of the laws, told by contracts, at the seat. No condition.
-/
import Derived.Test.YtaepgkghgcchnaaWordsL
import Derived.Test.YtaepgkghgcchnaaShelf
set_option linter.unusedVariables false
namespace Go.Pe
open Go Go.Am Go.RowKit

theorem cfgW_ok {Gl : Gmap} {m : Int} (hg : Gl 0 0 = some (.int .i64 m)) : CfgOK Go.Proofs.Try.prog Gl cfgW := by
  refine cfg_okt tbl_all ?_
  intro f g h
  unfold extW at h
  split at h
  · rename_i e; simp only [Option.some.injEq] at h; subst h; subst e
    exact contains_ok hg fun s sub m w hs hm => Go.Proofs.Try.strings_Contains s sub m w hs hm
  · split at h
    · rename_i e; simp only [Option.some.injEq] at h; subst h; subst e
      exact count_ok fun s c w => Go.Proofs.Try.strings_Count_one s c w
    · split at h
      · rename_i e; simp only [Option.some.injEq] at h; subst h; subst e
        exact indexByte_ok fun s c w => Go.Proofs.Try.strings_IndexByte s c w
      · simp at h
theorem cfgI_ok {Gl : Gmap} {m : Int} (hg : Gl 0 0 = some (.int .i64 m)) : CfgOK Go.Proofs.Try.prog Gl cfgI := by
  refine cfg_okt tbl_all ?_
  intro f g h
  unfold extI at h
  split at h
  · rename_i e; simp only [Option.some.injEq] at h; subst h; subst e
    exact next_pure (cfgW_ok hg)
  · simp at h
theorem extL_ok {Gl : Gmap} {m : Int} (hg : Gl 0 0 = some (.int .i64 m)) {f : FuncId} {g : List PV → Option PV} (h : extL2 f = some g) : PureOK Go.Proofs.Try.prog Gl f g := by
  unfold extL2 at h
  split at h
  · rename_i e; simp only [Option.some.injEq] at h; subst h; subst e
    exact pure_of (cfgI_ok hg) is_any
  split at h
  · rename_i e; simp only [Option.some.injEq] at h; subst h; subst e
    exact pure_of (cfgI_ok hg) not_any
  unfold extL at h
  split at h
  · rename_i e; simp only [Option.some.injEq] at h; subst h; subst e
    exact next_pure (cfgW_ok hg)
  split at h
  · rename_i e; simp only [Option.some.injEq] at h; subst h; subst e
    exact count_ok fun s c w => Go.Proofs.Try.strings_Count_one s c w
  split at h
  · rename_i e; simp only [Option.some.injEq] at h; subst h; subst e
    exact pure_of (cfgI_ok hg) pick_any
  split at h
  · rename_i e; simp only [Option.some.injEq] at h; subst h; subst e
    exact pure_of (cfgI_ok hg) awake_any
  · simp at h
theorem cfgL_ok {Gl : Gmap} {m : Int} (hg : Gl 0 0 = some (.int .i64 m)) : CfgOK Go.Proofs.Try.prog Gl cfgL := cfg_okt tbl_all fun f g h => extL_ok hg h
theorem cfgR0_ok {Gl : Gmap} : CfgOK Go.Proofs.Try.prog Gl cfgR0 := cfg_okt tbl_all fun f g h => by simp [extR0] at h
theorem cfgR1_ok {Gl : Gmap} : CfgOK Go.Proofs.Try.prog Gl cfgR1 := by
  refine cfg_okt tbl_all ?_
  intro f g h
  unfold extR1 at h
  split at h
  · rename_i e; simp only [Option.some.injEq] at h; subst h; subst e
    exact pure_of cfgR0_ok among_any
  · simp at h
theorem cfgR2_ok {Gl : Gmap} : CfgOK Go.Proofs.Try.prog Gl cfgR2 := by
  refine cfg_okt tbl_all ?_
  intro f g h
  unfold extR2 at h
  split at h
  · rename_i e; simp only [Option.some.injEq] at h; subst h; subst e
    exact pure_of cfgR0_ok among_any
  split at h
  · rename_i e; simp only [Option.some.injEq] at h; subst h; subst e
    exact pure_of cfgR1_ok only_any
  split at h
  · rename_i e; simp only [Option.some.injEq] at h; subst h; subst e
    exact pure_of cfgR0_ok key_any
  · simp at h
theorem cfgR3_ok {Gl : Gmap} : CfgOK Go.Proofs.Try.prog Gl cfgR3 := by
  refine cfg_okt tbl_all ?_
  intro f g h
  unfold extR3 at h
  split at h
  · rename_i e; simp only [Option.some.injEq] at h; subst h; subst e
    exact pure_of cfgR1_ok over_any
  split at h
  · rename_i e; simp only [Option.some.injEq] at h; subst h; subst e
    exact pure_of cfgR2_ok kind_any
  split at h
  · rename_i e; simp only [Option.some.injEq] at h; subst h; subst e
    exact pure_of cfgR0_ok num_any
  · simp at h
theorem cfgT_ok {Gl : Gmap} {m : Int} (hg : Gl 0 0 = some (.int .i64 m)) : CfgOK Go.Proofs.Try.prog Gl cfgT := by
  refine cfg_okt tbl_all ?_
  intro f g h
  unfold extT at h
  split at h
  · rename_i e; simp only [Option.some.injEq] at h; subst h; subst e
    exact pure_of cfgR3_ok refn_any
  · exact extL_ok hg h
theorem cfgP_ok {Gl : Gmap} : CfgOK Go.Proofs.Try.prog Gl cfgP := by
  refine cfg_okt tbl_all ?_
  intro f g h
  unfold extP at h
  split at h
  · rename_i e; simp only [Option.some.injEq] at h; subst h; subst e
    exact pure_of cfgR0_ok prefix_any
  · simp at h
theorem cfgS_ok {Gl : Gmap} {m : Int} (hg : Gl 0 0 = some (.int .i64 m)) : CfgOK Go.Proofs.Try.prog Gl cfgS := by
  refine cfg_okt tbl_all ?_
  intro f g h
  unfold extS at h
  split at h
  · rename_i e; simp only [Option.some.injEq] at h; subst h; subst e
    exact pure_of cfgP_ok hasPrefix_any
  split at h
  · rename_i e; simp only [Option.some.injEq] at h; subst h; subst e
    exact indexByte_ok fun s c w => Go.Proofs.Try.strings_IndexByte s c w
  · exact extL_ok hg h
/-- MaxLen's cell -/
theorem maxLen_cell {w : World} (h : w.ShapedOpen Go.Proofs.Try.prog) : ∃ m, w.cell? ⟨0, 0, none⟩ = some (.int .i64 m) := Go.Proofs.Try.laysM144.s1_3 w h
end Go.Pe
