/-
  Bytes: all calls of BytesTells, told by contracts; the chapter's examples. No condition.
-/
import Derived.Test.YtmjoneiagfegdaaBytA
import Derived.Test.YtmjoneiagfegdaaPeL8
set_option linter.unusedVariables false
set_option linter.unusedSimpArgs false
namespace Go.Pe
open Go Go.Am Go.RowKit

theorem cfgE1_ok' {Gl : Gmap} : CfgOK Go.Proofs.Try.prog Gl cfgE1 := by
  refine cfg_okt tbl_all ?_
  intro f g h
  unfold extE1 at h
  split at h
  · rename_i e; simp only [Option.some.injEq] at h; subst h; subst e
    exact pure_of cfgE0_ok' fold_any
  split at h
  · rename_i e; simp only [Option.some.injEq] at h; subst h; subst e
    exact pure_of cfgE0_ok' uint_any
  · simp at h
set_option maxHeartbeats 8000000 in
set_option maxRecDepth 100000 in
theorem bawake_run : fvP cfgG 60 10 [] = some (.b true) := by kernel_rfl
def gAwakeB : List PV → Option PV
  | [] => some (.b true)
  | _ => none
theorem bawake_any (args : List PV) (r : PV) (h : gAwakeB args = some r) : ∃ fuel, evP cfgG fuel 10 args = some r := by
  unfold gAwakeB at h
  split at h
  · simp only [Option.some.injEq] at h
    subst h
    have := bawake_run
    rw [fvP_eq] at this
    exact ⟨60, this⟩
  · simp at h
def extB3 : FuncId → Option (List PV → Option PV) := fun f => if f = 12 then some gGetU else if f = 13 then some gGetI else if f = 22 then some gGetBlob else if f = 18 then some gUnseal else if f = 16 then some gCrc else if f = 17 then some gSeal else if f = 11 then some gUint else if f = 14 then some gInt else if f = 31 then some gBlob else if f = 23 then some gRGetU else if f = 24 then some gRGetI else if f = 25 then some gRGetBlob else if f = 26 then some gRUnseal else if f = 27 then some gRCrc else if f = 28 then some gRSeal else if f = 29 then some gRUint else if f = 30 then some gRInt else if f = 32 then some gRBlob else if f = 10 then some gAwakeB else none
noncomputable def cfgB3 : Cfg := { fn := fun f => lookT f tblL, ext := extB3 }
theorem extB3_ok {Gl : Gmap} : ∀ f g, extB3 f = some g → PureOK Go.Proofs.Try.prog Gl f g := by
  intro f g h
  unfold extB3 at h
  by_cases e : f = 12
  · subst e; rw [if_pos rfl] at h; cases h
    exact pure_of cfgK1_ok getu_any
  rw [if_neg e] at h; clear e
  by_cases e : f = 13
  · subst e; rw [if_pos rfl] at h; cases h
    exact pure_of cfgK2_ok geti_any
  rw [if_neg e] at h; clear e
  by_cases e : f = 22
  · subst e; rw [if_pos rfl] at h; cases h
    exact pure_of cfgB2_ok getblob_any
  rw [if_neg e] at h; clear e
  by_cases e : f = 18
  · subst e; rw [if_pos rfl] at h; cases h
    exact pure_of cfgK3_ok unseal_any
  rw [if_neg e] at h; clear e
  by_cases e : f = 16
  · subst e; rw [if_pos rfl] at h; cases h
    exact pure_of cfgK1_ok crc_any
  rw [if_neg e] at h; clear e
  by_cases e : f = 17
  · subst e; rw [if_pos rfl] at h; cases h
    exact pure_of cfgK2_ok seal_any
  rw [if_neg e] at h; clear e
  by_cases e : f = 11
  · subst e; rw [if_pos rfl] at h; cases h
    exact pure_of cfgE0_ok' uint_any
  rw [if_neg e] at h; clear e
  by_cases e : f = 14
  · subst e; rw [if_pos rfl] at h; cases h
    exact pure_of cfgE1_ok' int_any
  rw [if_neg e] at h; clear e
  by_cases e : f = 31
  · subst e; rw [if_pos rfl] at h; cases h
    exact pure_of cfgB2_ok blob_any
  rw [if_neg e] at h; clear e
  by_cases e : f = 23
  · subst e; rw [if_pos rfl] at h; cases h
    exact pure_of cfgR1_ok rgetu_any
  rw [if_neg e] at h; clear e
  by_cases e : f = 24
  · subst e; rw [if_pos rfl] at h; cases h
    exact pure_of cfgR5_ok rgeti_any
  rw [if_neg e] at h; clear e
  by_cases e : f = 25
  · subst e; rw [if_pos rfl] at h; cases h
    exact pure_of cfgB1_ok rgetblob_any
  rw [if_neg e] at h; clear e
  by_cases e : f = 26
  · subst e; rw [if_pos rfl] at h; cases h
    exact pure_of cfgR4b_ok runseal_any
  rw [if_neg e] at h; clear e
  by_cases e : f = 27
  · subst e; rw [if_pos rfl] at h; cases h
    exact pure_of cfgR3_ok rcrc_any
  rw [if_neg e] at h; clear e
  by_cases e : f = 28
  · subst e; rw [if_pos rfl] at h; cases h
    exact pure_of cfgR4_ok rseal_any
  rw [if_neg e] at h; clear e
  by_cases e : f = 29
  · subst e; rw [if_pos rfl] at h; cases h
    exact pure_of cfgR1_ok ruint_any
  rw [if_neg e] at h; clear e
  by_cases e : f = 30
  · subst e; rw [if_pos rfl] at h; cases h
    exact pure_of cfgR2_ok rint_any
  rw [if_neg e] at h; clear e
  by_cases e : f = 32
  · subst e; rw [if_pos rfl] at h; cases h
    exact pure_of cfgB1_ok rblob_any
  rw [if_neg e] at h; clear e
  by_cases e : f = 10
  · subst e; rw [if_pos rfl] at h; cases h
    exact pure_of cfgG_ok bawake_any
  rw [if_neg e] at h; clear e
  cases h
theorem cfgB3_ok {Gl : Gmap} : CfgOK Go.Proofs.Try.prog Gl cfgB3 := cfg_okt tbl_all extB3_ok
theorem hxB3_gGetU : extB3 12 = some gGetU := by kernel_rfl
theorem hxB3_gGetI : extB3 13 = some gGetI := by kernel_rfl
theorem hxB3_gGetBlob : extB3 22 = some gGetBlob := by kernel_rfl
theorem hxB3_gUnseal : extB3 18 = some gUnseal := by kernel_rfl
theorem hxB3_gCrc : extB3 16 = some gCrc := by kernel_rfl
theorem hxB3_gSeal : extB3 17 = some gSeal := by kernel_rfl
theorem hxB3_gUint : extB3 11 = some gUint := by kernel_rfl
theorem hxB3_gInt : extB3 14 = some gInt := by kernel_rfl
theorem hxB3_gBlob : extB3 31 = some gBlob := by kernel_rfl
theorem hxB3_gRGetU : extB3 23 = some gRGetU := by kernel_rfl
theorem hxB3_gRGetI : extB3 24 = some gRGetI := by kernel_rfl
theorem hxB3_gRGetBlob : extB3 25 = some gRGetBlob := by kernel_rfl
theorem hxB3_gRUnseal : extB3 26 = some gRUnseal := by kernel_rfl
theorem hxB3_gRCrc : extB3 27 = some gRCrc := by kernel_rfl
theorem hxB3_gRSeal : extB3 28 = some gRSeal := by kernel_rfl
theorem hxB3_gRUint : extB3 29 = some gRUint := by kernel_rfl
theorem hxB3_gRInt : extB3 30 = some gRInt := by kernel_rfl
theorem hxB3_gRBlob : extB3 32 = some gRBlob := by kernel_rfl
theorem hxB3_gAwakeB : extB3 10 = some gAwakeB := by kernel_rfl

noncomputable def cfgL8 : Cfg := { fn := fun f => lookT f tblX8, ext := extB3 }
theorem cfgL8_ok {Gl : Gmap} : CfgOK Go.Proofs.Try.prog Gl cfgL8 := cfg_okt tbl_all8 extB3_ok
end Go.Pe
