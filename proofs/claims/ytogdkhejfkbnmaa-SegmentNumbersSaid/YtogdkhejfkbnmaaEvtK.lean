/-
  Events: what is read and framed, told by contracts, at the seat. No condition.
-/
import Derived.Test.YtogdkhejfkbnmaaEvtS2
import Derived.Test.YtogdkhejfkbnmaaEvtK0
import Derived.Test.YtogdkhejfkbnmaaEvtH
set_option linter.unusedVariables false
namespace Go.Pe
open Go Go.Am Go.RowKit

theorem get_any (args : List PV) (r : PV) (h : gGetE args = some r) : ∃ fuel, evP cfgK3 fuel 83 args = some r := by
  unfold gGetE at h
  split at h
  · split at h
    · rename_i l hl
      split at h
      · rename_i hc
        simp only [Option.some.injEq] at h
        subst h
        exact ⟨12 + 1 + 1, evP_of (by kernel_rfl) (open_in hl) (get_ev (cfg := cfgK3) (by kernel_rfl) (by kernel_rfl) (by kernel_rfl) (by kernel_rfl) hl hc)⟩
      · simp at h
    · simp at h
  · simp at h
def extK4 : FuncId → Option (List PV → Option PV) := fun f => if f = 45 then some gGetU else if f = 83 then some gGetE else none
noncomputable def cfgK4 : Cfg := { fn := fun f => lookT f tblL, ext := extK4 }
theorem cfgK4_ok {Gl : Gmap} : CfgOK Go.Proofs.Try.prog Gl cfgK4 := by
  refine cfg_okt tbl_all ?_
  intro f g h
  unfold extK4 at h
  split at h
  · rename_i e; simp only [Option.some.injEq] at h; subst h; subst e
    exact pure_of cfgK1_ok getu_any
  split at h
  · rename_i e; simp only [Option.some.injEq] at h; subst h; subst e
    exact pure_of cfgK3_ok get_any
  · simp at h
theorem events_any (args : List PV) (r : PV) (h : gEvents args = some r) : ∃ fuel, evP cfgK4 fuel 58 args = some r := by
  unfold gEvents at h
  split at h
  · split at h
    · rename_i l hl
      split at h
      · rename_i hc
        simp only [Option.some.injEq] at h
        subst h
        exact ⟨4100 + 1, evP_of (by kernel_rfl) (open_in hl) (events_ev (cfg := cfgK4) (by kernel_rfl) (by kernel_rfl) (by kernel_rfl) (by omega) hl hc)⟩
      · simp at h
    · simp at h
  · simp at h
def extK5 : FuncId → Option (List PV → Option PV) := fun f => if f = 45 then some gGetU else if f = 43 then some gUnseal else if f = 58 then some gEvents else none
noncomputable def cfgK5 : Cfg := { fn := fun f => lookT f tblL, ext := extK5 }
theorem cfgK5_ok {Gl : Gmap} : CfgOK Go.Proofs.Try.prog Gl cfgK5 := by
  refine cfg_okt tbl_all ?_
  intro f g h
  unfold extK5 at h
  split at h
  · rename_i e; simp only [Option.some.injEq] at h; subst h; subst e
    exact pure_of cfgK1_ok getu_any
  split at h
  · rename_i e; simp only [Option.some.injEq] at h; subst h; subst e
    exact pure_of cfgK3_ok unseal_any
  split at h
  · rename_i e; simp only [Option.some.injEq] at h; subst h; subst e
    exact pure_of cfgK4_ok events_any
  · simp at h
theorem read_any (args : List PV) (r : PV) (h : gRead args = some r) : ∃ fuel, evP cfgK5 fuel 38 args = some r := by
  unfold gRead at h
  split at h
  · split at h
    · rename_i l hl
      split at h
      · rename_i hc
        simp only [Option.some.injEq] at h
        subst h
        exact ⟨12 + 1, evP_of (by kernel_rfl) (open_in hl) (read_ev (cfg := cfgK5) (by kernel_rfl) (by kernel_rfl) (by kernel_rfl) (by kernel_rfl) hl hc)⟩
      · simp at h
    · simp at h
  · simp at h
def extK6 : FuncId → Option (List PV → Option PV) := fun f => if f = 34 then some gUint else if f = 56 then some gPut else if f = 31 then some gSeal else none
noncomputable def cfgK6 : Cfg := { fn := fun f => lookT f tblL, ext := extK6 }
theorem cfgK6_ok {Gl : Gmap} : CfgOK Go.Proofs.Try.prog Gl cfgK6 := by
  refine cfg_okt tbl_all ?_
  intro f g h
  unfold extK6 at h
  split at h
  · rename_i e; simp only [Option.some.injEq] at h; subst h; subst e
    exact pure_of cfgE0_ok uint_any
  split at h
  · rename_i e; simp only [Option.some.injEq] at h; subst h; subst e
    exact pure_of cfgE2_ok put_any
  split at h
  · rename_i e; simp only [Option.some.injEq] at h; subst h; subst e
    exact pure_of cfgK2_ok seal_any
  · simp at h
theorem frame_any (args : List PV) (r : PV) (h : gFrame args = some r) : ∃ fuel, evP cfgK6 fuel 32 args = some r := by
  unfold gFrame at h
  split at h
  · simp only [Option.some.injEq] at h
    subst h
    exact ⟨4100 + 1, evP_of (by kernel_rfl) rfl (frame_ev (cfg := cfgK6) (by kernel_rfl) (by kernel_rfl) (by kernel_rfl) (by kernel_rfl) (by omega) (v := .nsl) (l := []) rfl (by decide))⟩
  · split at h
    · rename_i n cs l hl
      split at h
      · rename_i hc
        simp only [Option.some.injEq] at h
        subst h
        obtain ⟨rfl, hn⟩ := hc
        have hcs := evsOf_some _ (Nat.le_refl _) hl
        subst hcs
        exact ⟨4100 + 1, evP_of (by kernel_rfl) rfl (frame_ev (cfg := cfgK6) (by kernel_rfl) (by kernel_rfl) (by kernel_rfl) (by kernel_rfl) (by omega) (v := .fsl l.length (evsC l)) (l := l) ⟨rfl, rfl⟩ hn)⟩
      · simp at h
    · simp at h
  · simp at h
end Go.Pe
