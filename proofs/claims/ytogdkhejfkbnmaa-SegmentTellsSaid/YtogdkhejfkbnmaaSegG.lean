/-
 Segments: all their calls, told by contracts, at the seat. No condition.
-/
import Derived.Test.YtogdkhejfkbnmaaSegF
import Derived.Test.YtogdkhejfkbnmaaSegB
import Derived.Test.YtogdkhejfkbnmaaEvtK
import Derived.Test.YtogdkhejfkbnmaaEvtI
import Derived.Test.YtogdkhejfkbnmaaEvtS2
set_option linter.unusedVariables false
set_option linter.unusedSimpArgs false
set_option maxRecDepth 100000
namespace Go.Pe
open Go Go.Am Go.RowKit

def NoR : FuncId → Option (List PV → Option PV) := fun f => if f = 34 then some NfA else if f = 42 then some No2 else if f = 31 then some NfJ else if f = 45 then some NcM else if f = 75 then some NfI else if f = 43 then some Ncj else if f = 44 then some Nm0 else none
noncomputable def cfgS1 : Cfg := { fn := fun f => Nbr f tblL, ext := NoR }
theorem NnY {Gl : Gmap} : ∀ f g, NoR f = some g → NbJ Go.Proofs.Try.prog Gl f g := by
 intro f g h
 unfold NoR at h
 split at h
 ·rename_i e; simp only [Sj] at h; subst h; subst e
  exact Nam Nbg NjF
 split at h
 ·rename_i e; simp only [Sj] at h; subst h; subst e
  exact Nam NnR Npw
 split at h
 ·rename_i e; simp only [Sj] at h; subst h; subst e
  exact Nam NeJ Njx
 split at h
 ·rename_i e; simp only [Sj] at h; subst h; subst e
  exact Nam NdC NeK
 split at h
 ·rename_i e; simp only [Sj] at h; subst h; subst e
  exact Nam NeJ NjA
 split at h
 ·rename_i e; simp only [Sj] at h; subst h; subst e
  exact Nam NgX Nf2
 split at h
 ·rename_i e; simp only [Sj] at h; subst h; subst e
  exact Nam NnV Nqj
 ·simp at h
theorem Nb0 {Gl : Gmap} : CfgOK Go.Proofs.Try.prog Gl cfgS1 := NaP NaQ NnY
theorem NpI (k : Nat) (h : k < 5) : cfgS1.ext (Nbz k) = none :=
 match k, h with
 | 0, _ => (by kernel_rfl : cfgS1.ext (Nbz 0) = none)
 | 1, _ => (by kernel_rfl : cfgS1.ext (Nbz 1) = none)
 | 2, _ => (by kernel_rfl : cfgS1.ext (Nbz 2) = none)
 | 3, _ => (by kernel_rfl : cfgS1.ext (Nbz 3) = none)
 | 4, _ => (by kernel_rfl : cfgS1.ext (Nbz 4) = none)
theorem NrN (k : Nat) (h : k < 5) : cfgS1.ext (NbK k) = none :=
 match k, h with
 | 0, _ => (by kernel_rfl : cfgS1.ext (NbK 0) = none)
 | 1, _ => (by kernel_rfl : cfgS1.ext (NbK 1) = none)
 | 2, _ => (by kernel_rfl : cfgS1.ext (NbK 2) = none)
 | 3, _ => (by kernel_rfl : cfgS1.ext (NbK 3) = none)
 | 4, _ => (by kernel_rfl : cfgS1.ext (NbK 4) = none)
theorem Nnu (args : List PV) (r : PV) (h : Nmb args = some r) : ∃ fuel, evP cfgS1 fuel 37 args = some r := by
 unfold Nmb at h
 split at h
 ·split at h
  ·rename_i l hl
   split at h
   ·rename_i hc
    simp only [Sj] at h
    subst h
    exact ⟨_, Nbe (by kernel_rfl) (NaH hl) (fun _ => rfl) (Nqf (cfg := cfgS1) (fuel := 12) (by kernel_rfl) (by kernel_rfl) (by kernel_rfl) (by kernel_rfl) hl hc)⟩
   ·simp at h
  ·simp at h
 ·simp at h
def gHeadM : List PV → Option PV
 | [.i .i64 first] => some (NdT first)
 | _ => none
theorem Nh2 (args : List PV) (r : PV) (h : gHeadM args = some r) : ∃ fuel, evP cfgS1 fuel 11 args = some r := by
 unfold gHeadM at h
 split at h
 ·simp only [Sj] at h
  subst h
  exact ⟨_, Na2 (by kernel_rfl) rfl (NlD (cfg := cfgS1) (fuel := 12) (by kernel_rfl) (by kernel_rfl) (by kernel_rfl))⟩
 ·simp at h
def gPackS : List PV → Option PV
 | [.i .i64 first, v] => match Nf7 v with
   | some l => if l.length ≤ 140737488355327 ∧ -9223372036854775808 ≤ first ∧ first ≤ 9223372036854775807 then some (Ndn first l) else none
   | none => none
 | _ => none
theorem NpQ {a : Int} {v : PV} {l : List Ev} (h : Nf7 v = some l) : NaO [.i .i64 a, v] = ([.i .i64 a, v], { sto := .leaf, cnt := 1 }) := by
 cases v <;> first | rfl | simp [Nf7] at h
theorem NhB (args : List PV) (r : PV) (h : gPackS args = some r) : ∃ fuel, evP cfgS1 fuel 19 args = some r := by
 unfold gPackS at h
 split at h
 ·split at h
  ·rename_i l hl
   split at h
   ·rename_i hc
    simp only [Sj] at h
    subst h
    exact ⟨_, Na2 (by kernel_rfl) (NpQ hl) (NoU (P := Go.Proofs.Try.prog) (Gl := fun _ _ => none) (cfg := cfgS1) Nb0 (by kernel_rfl) (by kernel_rfl) (fun _ _ => rfl) NpI (by kernel_rfl) (by kernel_rfl) (by kernel_rfl) (by kernel_rfl) (Nc8 hl) hc.1 hc.2 (fuel := 1048600) (Nat.le_refl _))⟩
   ·simp at h
  ·simp at h
 ·simp at h
def gUnpackS : List PV → Option PV
 | [v] => match inL v with
   | some b => if b.length ≤ 140737488355000 then some (Nck b) else none
   | none => none
 | _ => none
theorem Nfm (args : List PV) (r : PV) (h : gUnpackS args = some r) : ∃ fuel, evP cfgS1 fuel 20 args = some r := by
 unfold gUnpackS at h
 split at h
 ·split at h
  ·rename_i l hl
   split at h
   ·rename_i hc
    simp only [Sj] at h
    subst h
    exact ⟨_, Na2 (by kernel_rfl) (NaH hl) (Nmg (P := Go.Proofs.Try.prog) (Gl := fun _ _ => none) (cfg := cfgS1) Nb0 (by kernel_rfl) (by kernel_rfl) (by kernel_rfl) (by kernel_rfl) (by kernel_rfl) (fun _ _ => rfl) NrN (by kernel_rfl) (by kernel_rfl) (by kernel_rfl) (by kernel_rfl) hl hc (fuel := 1048600) (Nat.le_refl _))⟩
   ·simp at h
  ·simp at h
 ·simp at h
def NpK : FuncId → Option (List PV → Option PV) := fun f => if f = 37 then some Nmb else if f = 38 then some NjZ else none
noncomputable def cfgS2 : Cfg := { fn := fun f => Nbr f tblL, ext := NpK }
theorem NnP {Gl : Gmap} : ∀ f g, NpK f = some g → NbJ Go.Proofs.Try.prog Gl f g := by
 intro f g h
 unfold NpK at h
 split at h
 ·rename_i e; simp only [Sj] at h; subst h; subst e
  exact Nam Nb0 Nnu
 split at h
 ·rename_i e; simp only [Sj] at h; subst h; subst e
  exact Nam Nm2 Noc
 ·simp at h
theorem Njz {Gl : Gmap} : CfgOK Go.Proofs.Try.prog Gl cfgS2 := NaP NaQ NnP
def gScanS : List PV → Option PV
 | [v] => match inL v with
   | some b => if b.length ≤ 1000000000000 then some (NfK b) else none
   | none => none
 | _ => none
theorem Nho (args : List PV) (r : PV) (h : gScanS args = some r) : ∃ fuel, evP cfgS2 fuel 15 args = some r := by
 unfold gScanS at h
 split at h
 ·split at h
  ·rename_i b hl
   split at h
   ·rename_i hc
    simp only [Sj] at h
    subst h
    exact ⟨_, Na2 (by kernel_rfl) (NaH hl) (NpR (cfg := cfgS2) (by kernel_rfl) (by kernel_rfl) (by kernel_rfl) hl hc (fuel := b.length + 5) (Nat.le_refl _))⟩
   ·simp at h
  ·simp at h
 ·simp at h
def Nqh : FuncId → Option (List PV → Option PV) := fun f => if f = 11 then some gHeadM else if f = 19 then some gPackS else if f = 20 then some gUnpackS else if f = 15 then some gScanS else if f = 29 then some gSameE else if f = 28 then some gSame else if f = 13 then some gCopyB else if f = 81 then some gGrow else none
noncomputable def cfgS3 : Cfg := { fn := fun f => Nbr f tblL, ext := Nqh }
theorem Nnh {Gl : Gmap} : ∀ f g, Nqh f = some g → NbJ Go.Proofs.Try.prog Gl f g := by
 intro f g h
 unfold Nqh at h
 split at h
 ·rename_i e; simp only [Sj] at h; subst h; subst e
  exact Nam Nb0 Nh2
 split at h
 ·rename_i e; simp only [Sj] at h; subst h; subst e
  exact Nam Nb0 NhB
 split at h
 ·rename_i e; simp only [Sj] at h; subst h; subst e
  exact Nam Nb0 Nfm
 split at h
 ·rename_i e; simp only [Sj] at h; subst h; subst e
  exact Nam Njz Nho
 split at h
 ·rename_i e; simp only [Sj] at h; subst h; subst e
  exact Nam Nbg Nhf
 split at h
 ·rename_i e; simp only [Sj] at h; subst h; subst e
  exact Nam Nbg Njh
 split at h
 ·rename_i e; simp only [Sj] at h; subst h; subst e
  exact Nam Nbg NhH
 split at h
 ·rename_i e; simp only [Sj] at h; subst h; subst e
  exact Nlo
 ·simp at h
theorem Nn3 {Gl : Gmap} : CfgOK Go.Proofs.Try.prog Gl cfgS3 := NaP NaQ Nnh
theorem NkI : fvP cfgS3 400 22 [] = some (.b true) := by kernel_rfl
def gAwakeS : List PV → Option PV
 | [] => some (.b true)
 | _ => none
theorem Nkn (args : List PV) (r : PV) (h : gAwakeS args = some r) : ∃ fuel, evP cfgS3 fuel 22 args = some r := by
 unfold gAwakeS at h
 split at h
 ·rw [← h]
  refine ⟨400, ?_⟩
  have := NkI
  rwa [Nq2] at this
 ·simp at h
end Go.Pe
