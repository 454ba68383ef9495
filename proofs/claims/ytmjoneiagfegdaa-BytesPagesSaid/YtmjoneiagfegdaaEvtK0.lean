/-
  Bytes: what the package bytes tells, told by contracts, at the seat. No condition.
-/
import Derived.Test.YtmjoneiagfegdaaEvtE
import Derived.Test.YtmjoneiagfegdaaPe7
set_option linter.unusedVariables false
namespace Go.Pe
open Go Go.Am Go.RowKit

theorem opened_any (args : List PV) (r : PV) (h : gOpened args = some r) : ∃ fuel, evP cfgE0 fuel 38 args = some r := by
  unfold gOpened at h
  split at h
  · rename_i n
    split at h
    · rename_i hc
      simp only [Option.some.injEq] at h
      subst h
      have := opened_ev (cfg := cfgE0) (by kernel_rfl) (fuel := 6) (st := { sto := .leaf, cnt := 1 }) (n := n.toNat) (by omega)
      rw [show ((n.toNat : Nat) : Int) = n by omega] at this
      exact ⟨6 + 1, ev_flat rfl rfl (fun _ => rfl) this⟩
    · simp at h
  · simp at h
theorem getT_close (st : St) (p : Nat × Int × Int) : closeRes st (getT p) = some (getT p) := closeRes_tup (vs := [.i .u64 (p.1 : Int), .i .i64 p.2.1, .i .i64 p.2.2]) rfl
theorem getIT_close (st : St) (p : Int × Int × Int) : closeRes st (getIT p) = some (getIT p) := closeRes_tup (vs := [.i .i64 p.1, .i .i64 p.2.1, .i .i64 p.2.2]) rfl
theorem cfgG_ok {Gl : Gmap} : CfgOK Go.Proofs.Try.prog Gl cfgG := by
  refine cfg_okt tbl_all ?_
  intro f g h
  unfold extG at h
  split at h
  · rename_i e; simp only [Option.some.injEq] at h; subst h; subst e
    exact grow_ok
  · simp at h
def extK1 : FuncId → Option (List PV → Option PV) := fun f => if f = 37 then some gNumber else if f = 40 then some gHalf else none
noncomputable def cfgK1 : Cfg := { fn := fun f => lookT f tblL, ext := extK1 }
theorem cfgK1_ok {Gl : Gmap} : CfgOK Go.Proofs.Try.prog Gl cfgK1 := by
  refine cfg_okt tbl_all ?_
  intro f g h
  unfold extK1 at h
  split at h
  · rename_i e; simp only [Option.some.injEq] at h; subst h; subst e
    exact pure_of cfgE0_ok' number_any
  split at h
  · rename_i e; simp only [Option.some.injEq] at h; subst h; subst e
    exact pure_of cfgE0_ok' half_any
  · simp at h
theorem getu_any (args : List PV) (r : PV) (h : gGetU args = some r) : ∃ fuel, evP cfgK1 fuel 12 args = some r := by
  unfold gGetU at h
  split at h
  · split at h
    · rename_i l hl
      split at h
      · rename_i hc
        simp only [Option.some.injEq] at h
        subst h
        exact ⟨12 + 1, ev_flat (by kernel_rfl) (open_in hl) (fun st => getT_close st _) (getu_ev (cfg := cfgK1) (by kernel_rfl) (by kernel_rfl) hl hc)⟩
      · simp at h
    · simp at h
  · simp at h
theorem crc_any (args : List PV) (r : PV) (h : gCrc args = some r) : ∃ fuel, evP cfgK1 fuel 16 args = some r := by
  unfold gCrc at h
  split at h
  · split at h
    · rename_i l hl
      split at h
      · rename_i hc
        simp only [Option.some.injEq] at h
        subst h
        exact ⟨l.length + 1 + 1, ev_flat (by kernel_rfl) (open_in hl) (fun st => rfl) (crc_ev (cfg := cfgK1) (by kernel_rfl) (by kernel_rfl) hl hc (by omega))⟩
      · simp at h
    · simp at h
  · simp at h
def extK2 : FuncId → Option (List PV → Option PV) := fun f => if f = 12 then some gGetU else if f = 38 then some gOpened else if f = 16 then some gCrc else if f = 41 then some gConcat else none
noncomputable def cfgK2 : Cfg := { fn := fun f => lookT f tblL, ext := extK2 }
theorem cfgK2_ok {Gl : Gmap} : CfgOK Go.Proofs.Try.prog Gl cfgK2 := by
  refine cfg_okt tbl_all ?_
  intro f g h
  unfold extK2 at h
  split at h
  · rename_i e; simp only [Option.some.injEq] at h; subst h; subst e
    exact pure_of cfgK1_ok getu_any
  split at h
  · rename_i e; simp only [Option.some.injEq] at h; subst h; subst e
    exact pure_of cfgE0_ok' opened_any
  split at h
  · rename_i e; simp only [Option.some.injEq] at h; subst h; subst e
    exact pure_of cfgK1_ok crc_any
  split at h
  · rename_i e; simp only [Option.some.injEq] at h; subst h; subst e
    exact pure_of cfgG_ok concat_any
  · simp at h
theorem geti_any (args : List PV) (r : PV) (h : gGetI args = some r) : ∃ fuel, evP cfgK2 fuel 13 args = some r := by
  unfold gGetI at h
  split at h
  · split at h
    · rename_i l hl
      split at h
      · rename_i hc
        simp only [Option.some.injEq] at h
        subst h
        exact ⟨12 + 1, ev_flat (by kernel_rfl) (open_in hl) (fun st => getIT_close st _) (geti_ev (cfg := cfgK2) (by kernel_rfl) (by kernel_rfl) (by kernel_rfl) hl hc)⟩
      · simp at h
    · simp at h
  · simp at h
theorem seal_any (args : List PV) (r : PV) (h : gSeal args = some r) : ∃ fuel, evP cfgK2 fuel 17 args = some r := by
  unfold gSeal at h
  split at h
  · split at h
    · rename_i l hl
      split at h
      · rename_i hc
        simp only [Option.some.injEq] at h
        subst h
        obtain ⟨r, st', e1, k, e2, e3⟩ := seal_ev (cfg := cfgK2) (by kernel_rfl) (by kernel_rfl) (by kernel_rfl) (fuel := 12) (st := { sto := .leaf, cnt := 1 }) hl hc
        exact ⟨12 + 1, evP_of (by kernel_rfl) (open_in hl) ⟨r, st', e1, by rw [e2]; exact close_bytes e3⟩⟩
      · simp at h
    · simp at h
  · simp at h
def extK3 : FuncId → Option (List PV → Option PV) := fun f => if f = 13 then some gGetI else if f = 17 then some gSeal else if f = 42 then some gEqual else if f = 43 then some gClone else none
noncomputable def cfgK3 : Cfg := { fn := fun f => lookT f tblL, ext := extK3 }
theorem cfgK3_ok {Gl : Gmap} : CfgOK Go.Proofs.Try.prog Gl cfgK3 := by
  refine cfg_okt tbl_all ?_
  intro f g h
  unfold extK3 at h
  split at h
  · rename_i e; simp only [Option.some.injEq] at h; subst h; subst e
    exact pure_of cfgK2_ok geti_any
  split at h
  · rename_i e; simp only [Option.some.injEq] at h; subst h; subst e
    exact pure_of cfgK2_ok seal_any
  split at h
  · rename_i e; simp only [Option.some.injEq] at h; subst h; subst e
    exact pure_of cfgE0_ok' equal_any
  split at h
  · rename_i e; simp only [Option.some.injEq] at h; subst h; subst e
    exact clone_ok
  · simp at h
theorem unseal_any (args : List PV) (r : PV) (h : gUnseal args = some r) : ∃ fuel, evP cfgK3 fuel 18 args = some r := by
  unfold gUnseal at h
  split at h
  · split at h
    · rename_i l hl
      split at h
      · rename_i hc
        simp only [Option.some.injEq] at h
        subst h
        exact ⟨12 + 1, evP_of (by kernel_rfl) (open_in hl) (unseal_ev (cfg := cfgK3) (by kernel_rfl) (by kernel_rfl) (by kernel_rfl) (by kernel_rfl) hl hc)⟩
      · simp at h
    · simp at h
  · simp at h
def valB (v : PV) (M : List UInt8) : PV := match v with
  | .nsl => .nsl
  | _ => .fsl M.length (ofBytes M)
theorem Own.byteLen {st : St} {n : Nat} {v : PV} {M : List UInt8} (h : Own st 1 v n (ofBytes M)) : M.length = n := by
  have hl := h.long
  rwa [len_ofBytes, Nat.mul_one] at hl
theorem Own.deepV {st : St} {n : Nat} {v : PV} {M : List UInt8} (h : Own st 1 v n (ofBytes M)) : Go.Pe.deep st 12 v = some (valB v M) := by
  have hl := h.byteLen
  have h0 := h
  rcases h with ⟨rfl, rfl, h2⟩ | ⟨k, rfl, _⟩
  · rfl
  · rcases h0.deep (flat_ofBytes M) with ⟨h3, _⟩ | h3
    · simp at h3
    · rw [h3, ← hl]; rfl
theorem Own.inV {st : St} {n : Nat} {v : PV} {M : List UInt8} (h : Own st 1 v n (ofBytes M)) : inL (valB v M) = some M := by
  have hl := h.byteLen
  rcases h with ⟨rfl, rfl, h2⟩ | ⟨k, rfl, _⟩
  · have : M = [] := List.length_eq_zero_iff.1 hl
    subst this; rfl
  · exact in_fsl M
theorem Own.deepB {st : St} {n : Nat} {v : PV} {M : List UInt8} (h : Own st 1 v n (ofBytes M)) : ∃ v', Go.Pe.deep st 12 v = some v' ∧ inL v' = some M := ⟨_, h.deepV, h.inV⟩
end Go.Pe
