/-
  Segments: all their calls, told by contracts, at the seat. No condition.
-/
import Derived.Test.YtogdkhejfkbnmaaSegF
import Derived.Test.YtogdkhejfkbnmaaSegB
import Derived.Test.YtogdkhejfkbnmaaEvtK
import Derived.Test.YtogdkhejfkbnmaaEvtI
import Derived.Test.YtogdkhejfkbnmaaEvtS2
set_option linter.unusedVariables false
set_option linter.unusedSimpArgs false
namespace Go.Pe
open Go Go.Am Go.RowKit

def extS1 : FuncId → Option (List PV → Option PV) := fun f => if f = 34 then some gUint else if f = 42 then some gInt else if f = 31 then some gSeal else if f = 45 then some gGetU else if f = 75 then some gGetI else if f = 43 then some gUnseal else if f = 44 then some gPre else none
noncomputable def cfgS1 : Cfg := { fn := fun f => lookT f tblL, ext := extS1 }
theorem extS1_ok {Gl : Gmap} : ∀ f g, extS1 f = some g → PureOK Go.Proofs.Try.prog Gl f g := by
  intro f g h
  unfold extS1 at h
  split at h
  · rename_i e; simp only [Option.some.injEq] at h; subst h; subst e
    exact pure_of cfgE0_ok uint_any
  split at h
  · rename_i e; simp only [Option.some.injEq] at h; subst h; subst e
    exact pure_of cfgE1_ok int_any
  split at h
  · rename_i e; simp only [Option.some.injEq] at h; subst h; subst e
    exact pure_of cfgK2_ok seal_any
  split at h
  · rename_i e; simp only [Option.some.injEq] at h; subst h; subst e
    exact pure_of cfgK1_ok getu_any
  split at h
  · rename_i e; simp only [Option.some.injEq] at h; subst h; subst e
    exact pure_of cfgK2_ok geti_any
  split at h
  · rename_i e; simp only [Option.some.injEq] at h; subst h; subst e
    exact pure_of cfgK3_ok unseal_any
  split at h
  · rename_i e; simp only [Option.some.injEq] at h; subst h; subst e
    exact pure_of cfgS0_ok pre_any
  · simp at h
theorem cfgS1_ok {Gl : Gmap} : CfgOK Go.Proofs.Try.prog Gl cfgS1 := cfg_okt tbl_all extS1_ok
theorem hxS1_gUint : extS1 34 = some gUint := by kernel_rfl
theorem hxS1_gInt : extS1 42 = some gInt := by kernel_rfl
theorem hxS1_gSeal : extS1 31 = some gSeal := by kernel_rfl
theorem hxS1_gGetU : extS1 45 = some gGetU := by kernel_rfl
theorem hxS1_gGetI : extS1 75 = some gGetI := by kernel_rfl
theorem hxS1_gUnseal : extS1 43 = some gUnseal := by kernel_rfl
theorem hxS1_gPre : extS1 44 = some gPre := by kernel_rfl
theorem s1_pick (k : Nat) (h : k < 5) : cfgS1.ext (pickId k) = none :=
  match k, h with
  | 0, _ => (by kernel_rfl : cfgS1.ext (pickId 0) = none)
  | 1, _ => (by kernel_rfl : cfgS1.ext (pickId 1) = none)
  | 2, _ => (by kernel_rfl : cfgS1.ext (pickId 2) = none)
  | 3, _ => (by kernel_rfl : cfgS1.ext (pickId 3) = none)
  | 4, _ => (by kernel_rfl : cfgS1.ext (pickId 4) = none)
theorem s1_put (k : Nat) (h : k < 5) : cfgS1.ext (putId k) = none :=
  match k, h with
  | 0, _ => (by kernel_rfl : cfgS1.ext (putId 0) = none)
  | 1, _ => (by kernel_rfl : cfgS1.ext (putId 1) = none)
  | 2, _ => (by kernel_rfl : cfgS1.ext (putId 2) = none)
  | 3, _ => (by kernel_rfl : cfgS1.ext (putId 3) = none)
  | 4, _ => (by kernel_rfl : cfgS1.ext (putId 4) = none)
theorem head_any (args : List PV) (r : PV) (h : gHead args = some r) : ∃ fuel, evP cfgS1 fuel 37 args = some r := by
  unfold gHead at h
  split at h
  · split at h
    · rename_i l hl
      split at h
      · rename_i hc
        simp only [Option.some.injEq] at h
        subst h
        exact ⟨_, ev_flat (by kernel_rfl) (open_in hl) (fun _ => rfl) (head_ev (cfg := cfgS1) (fuel := 12) (by kernel_rfl) (by kernel_rfl) (by kernel_rfl) (by kernel_rfl) hl hc)⟩
      · simp at h
    · simp at h
  · simp at h
def gHeadM : List PV → Option PV
  | [.i .i64 first] => some (headV first)
  | _ => none
theorem headm_any (args : List PV) (r : PV) (h : gHeadM args = some r) : ∃ fuel, evP cfgS1 fuel 11 args = some r := by
  unfold gHeadM at h
  split at h
  · simp only [Option.some.injEq] at h
    subst h
    exact ⟨_, evP_of (by kernel_rfl) rfl (headmk_ev (cfg := cfgS1) (fuel := 12) (by kernel_rfl) (by kernel_rfl) (by kernel_rfl))⟩
  · simp at h
def gPackS : List PV → Option PV
  | [.i .i64 first, v] => match inEl v with
    | some l => if l.length ≤ 140737488355327 ∧ -9223372036854775808 ≤ first ∧ first ≤ 9223372036854775807 then some (packV first l) else none
    | none => none
  | _ => none
theorem open_iE {a : Int} {v : PV} {l : List Ev} (h : inEl v = some l) : openArgs [.i .i64 a, v] = ([.i .i64 a, v], { sto := .leaf, cnt := 1 }) := by
  cases v <;> first | rfl | simp [inEl] at h
theorem packs_any (args : List PV) (r : PV) (h : gPackS args = some r) : ∃ fuel, evP cfgS1 fuel 19 args = some r := by
  unfold gPackS at h
  split at h
  · split at h
    · rename_i l hl
      split at h
      · rename_i hc
        simp only [Option.some.injEq] at h
        subst h
        exact ⟨_, evP_of (by kernel_rfl) (open_iE hl) (pack_ev (P := Go.Proofs.Try.prog) (Gl := fun _ _ => none) (cfg := cfgS1) cfgS1_ok (by kernel_rfl) (by kernel_rfl) (fun _ _ => rfl) s1_pick (by kernel_rfl) (by kernel_rfl) (by kernel_rfl) (by kernel_rfl) (inEl_inEv hl) hc.1 hc.2 (fuel := 1048600) (Nat.le_refl _))⟩
      · simp at h
    · simp at h
  · simp at h
def gUnpackS : List PV → Option PV
  | [v] => match inL v with
    | some b => if b.length ≤ 140737488355000 then some (unpackV b) else none
    | none => none
  | _ => none
theorem unpacks_any (args : List PV) (r : PV) (h : gUnpackS args = some r) : ∃ fuel, evP cfgS1 fuel 20 args = some r := by
  unfold gUnpackS at h
  split at h
  · split at h
    · rename_i l hl
      split at h
      · rename_i hc
        simp only [Option.some.injEq] at h
        subst h
        exact ⟨_, evP_of (by kernel_rfl) (open_in hl) (unpack_ev (P := Go.Proofs.Try.prog) (Gl := fun _ _ => none) (cfg := cfgS1) cfgS1_ok (by kernel_rfl) (by kernel_rfl) (by kernel_rfl) (by kernel_rfl) (by kernel_rfl) (fun _ _ => rfl) s1_put (by kernel_rfl) (by kernel_rfl) (by kernel_rfl) (by kernel_rfl) hl hc (fuel := 1048600) (Nat.le_refl _))⟩
      · simp at h
    · simp at h
  · simp at h
def extS2 : FuncId → Option (List PV → Option PV) := fun f => if f = 37 then some gHead else if f = 38 then some gRead else none
noncomputable def cfgS2 : Cfg := { fn := fun f => lookT f tblL, ext := extS2 }
theorem extS2_ok {Gl : Gmap} : ∀ f g, extS2 f = some g → PureOK Go.Proofs.Try.prog Gl f g := by
  intro f g h
  unfold extS2 at h
  split at h
  · rename_i e; simp only [Option.some.injEq] at h; subst h; subst e
    exact pure_of cfgS1_ok head_any
  split at h
  · rename_i e; simp only [Option.some.injEq] at h; subst h; subst e
    exact pure_of cfgK5_ok read_any
  · simp at h
theorem cfgS2_ok {Gl : Gmap} : CfgOK Go.Proofs.Try.prog Gl cfgS2 := cfg_okt tbl_all extS2_ok
theorem hxS2_gHead : extS2 37 = some gHead := by kernel_rfl
theorem hxS2_gRead : extS2 38 = some gRead := by kernel_rfl
def gScanS : List PV → Option PV
  | [v] => match inL v with
    | some b => if b.length ≤ 1000000000000 then some (scanV b) else none
    | none => none
  | _ => none
theorem scans_any (args : List PV) (r : PV) (h : gScanS args = some r) : ∃ fuel, evP cfgS2 fuel 15 args = some r := by
  unfold gScanS at h
  split at h
  · split at h
    · rename_i b hl
      split at h
      · rename_i hc
        simp only [Option.some.injEq] at h
        subst h
        exact ⟨_, evP_of (by kernel_rfl) (open_in hl) (scan_ev (cfg := cfgS2) (by kernel_rfl) (by kernel_rfl) (by kernel_rfl) hl hc (fuel := b.length + 5) (Nat.le_refl _))⟩
      · simp at h
    · simp at h
  · simp at h
def extS3 : FuncId → Option (List PV → Option PV) := fun f => if f = 11 then some gHeadM else if f = 19 then some gPackS else if f = 20 then some gUnpackS else if f = 15 then some gScanS else if f = 29 then some gSameE else if f = 28 then some gSame else if f = 13 then some gCopyB else if f = 81 then some gGrow else none
noncomputable def cfgS3 : Cfg := { fn := fun f => lookT f tblL, ext := extS3 }
theorem extS3_ok {Gl : Gmap} : ∀ f g, extS3 f = some g → PureOK Go.Proofs.Try.prog Gl f g := by
  intro f g h
  unfold extS3 at h
  split at h
  · rename_i e; simp only [Option.some.injEq] at h; subst h; subst e
    exact pure_of cfgS1_ok headm_any
  split at h
  · rename_i e; simp only [Option.some.injEq] at h; subst h; subst e
    exact pure_of cfgS1_ok packs_any
  split at h
  · rename_i e; simp only [Option.some.injEq] at h; subst h; subst e
    exact pure_of cfgS1_ok unpacks_any
  split at h
  · rename_i e; simp only [Option.some.injEq] at h; subst h; subst e
    exact pure_of cfgS2_ok scans_any
  split at h
  · rename_i e; simp only [Option.some.injEq] at h; subst h; subst e
    exact pure_of cfgE0_ok samee_any
  split at h
  · rename_i e; simp only [Option.some.injEq] at h; subst h; subst e
    exact pure_of cfgE0_ok same_any
  split at h
  · rename_i e; simp only [Option.some.injEq] at h; subst h; subst e
    exact pure_of cfgE0_ok copyb_any
  split at h
  · rename_i e; simp only [Option.some.injEq] at h; subst h; subst e
    exact grow_ok
  · simp at h
theorem cfgS3_ok {Gl : Gmap} : CfgOK Go.Proofs.Try.prog Gl cfgS3 := cfg_okt tbl_all extS3_ok
theorem hxS3_gHeadM : extS3 11 = some gHeadM := by kernel_rfl
theorem hxS3_gPackS : extS3 19 = some gPackS := by kernel_rfl
theorem hxS3_gUnpackS : extS3 20 = some gUnpackS := by kernel_rfl
theorem hxS3_gScanS : extS3 15 = some gScanS := by kernel_rfl
theorem hxS3_gSameE : extS3 29 = some gSameE := by kernel_rfl
theorem hxS3_gSame : extS3 28 = some gSame := by kernel_rfl
theorem hxS3_gCopyB : extS3 13 = some gCopyB := by kernel_rfl
theorem hxS3_gGrow : extS3 81 = some gGrow := by kernel_rfl
set_option maxRecDepth 100000 in
theorem sawake_run : fvP cfgS3 400 22 [] = some (.b true) := by kernel_rfl
def gAwakeS : List PV → Option PV
  | [] => some (.b true)
  | _ => none
theorem sawake_any (args : List PV) (r : PV) (h : gAwakeS args = some r) : ∃ fuel, evP cfgS3 fuel 22 args = some r := by
  unfold gAwakeS at h
  split at h
  · rw [← h]
    refine ⟨400, ?_⟩
    have := sawake_run
    rwa [fvP_eq] at this
  · simp at h
def extS4 : FuncId → Option (List PV → Option PV) := fun f => if f = 11 then some gHeadM else if f = 19 then some gPackS else if f = 20 then some gUnpackS else if f = 15 then some gScanS else if f = 32 then some gFrame else if f = 31 then some gSeal else if f = 30 then some gPick else if f = 29 then some gSameE else if f = 28 then some gSame else if f = 13 then some gCopyB else if f = 22 then some gAwakeS else none
noncomputable def cfgS4 : Cfg := { fn := fun f => lookT f tblL, ext := extS4 }
theorem extS4_ok {Gl : Gmap} : ∀ f g, extS4 f = some g → PureOK Go.Proofs.Try.prog Gl f g := by
  intro f g h
  unfold extS4 at h
  split at h
  · rename_i e; simp only [Option.some.injEq] at h; subst h; subst e
    exact pure_of cfgS1_ok headm_any
  split at h
  · rename_i e; simp only [Option.some.injEq] at h; subst h; subst e
    exact pure_of cfgS1_ok packs_any
  split at h
  · rename_i e; simp only [Option.some.injEq] at h; subst h; subst e
    exact pure_of cfgS1_ok unpacks_any
  split at h
  · rename_i e; simp only [Option.some.injEq] at h; subst h; subst e
    exact pure_of cfgS2_ok scans_any
  split at h
  · rename_i e; simp only [Option.some.injEq] at h; subst h; subst e
    exact pure_of cfgK6_ok frame_any
  split at h
  · rename_i e; simp only [Option.some.injEq] at h; subst h; subst e
    exact pure_of cfgK2_ok seal_any
  split at h
  · rename_i e; simp only [Option.some.injEq] at h; subst h; subst e
    exact pure_of cfgE0_ok pick_any
  split at h
  · rename_i e; simp only [Option.some.injEq] at h; subst h; subst e
    exact pure_of cfgE0_ok samee_any
  split at h
  · rename_i e; simp only [Option.some.injEq] at h; subst h; subst e
    exact pure_of cfgE0_ok same_any
  split at h
  · rename_i e; simp only [Option.some.injEq] at h; subst h; subst e
    exact pure_of cfgE0_ok copyb_any
  split at h
  · rename_i e; simp only [Option.some.injEq] at h; subst h; subst e
    exact pure_of cfgS3_ok sawake_any
  · simp at h
theorem cfgS4_ok {Gl : Gmap} : CfgOK Go.Proofs.Try.prog Gl cfgS4 := cfg_okt tbl_all extS4_ok
theorem hxS4_gHeadM : extS4 11 = some gHeadM := by kernel_rfl
theorem hxS4_gPackS : extS4 19 = some gPackS := by kernel_rfl
theorem hxS4_gUnpackS : extS4 20 = some gUnpackS := by kernel_rfl
theorem hxS4_gScanS : extS4 15 = some gScanS := by kernel_rfl
theorem hxS4_gFrame : extS4 32 = some gFrame := by kernel_rfl
theorem hxS4_gSeal : extS4 31 = some gSeal := by kernel_rfl
theorem hxS4_gPick : extS4 30 = some gPick := by kernel_rfl
theorem hxS4_gSameE : extS4 29 = some gSameE := by kernel_rfl
theorem hxS4_gSame : extS4 28 = some gSame := by kernel_rfl
theorem hxS4_gCopyB : extS4 13 = some gCopyB := by kernel_rfl
theorem hxS4_gAwakeS : extS4 22 = some gAwakeS := by kernel_rfl
end Go.Pe
