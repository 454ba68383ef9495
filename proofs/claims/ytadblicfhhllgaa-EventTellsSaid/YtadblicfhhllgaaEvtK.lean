/-
 Events: what is read and framed, told by contracts, at the seat. No condition.
-/
import Derived.Test.YtadblicfhhllgaaEvtS2
import Derived.Test.YtadblicfhhllgaaEvtH
set_option linter.unusedVariables false
namespace Go.Pe
open Go Go.Am Go.RowKit

theorem NiY (args : List PV) (r : PV) (h : NeD args = some r) : ∃ fuel, evP cfgE0 fuel 43 args = some r := by
 unfold NeD at h
 split at h
 ·rename_i n
  split at h
  ·rename_i hc
   simp only [Sj] at h
   subst h
   have := NjK (cfg := cfgE0) (by kernel_rfl) (fuel := 6) (st := { sto := .leaf, cnt := 1 }) (n := n.toNat) (by omega)
   rw [show ((n.toNat : Nat) : Int) = n by omega] at this
   exact ⟨6 + 1, Nbr rfl rfl (fun _ => rfl) this⟩
  ·simp at h
 ·simp at h
theorem Nin (st : St) (p : Nat × Int × Int) : Nav st (Ng9 p) = some (Ng9 p) := Nak (vs := [.i .u64 (p.1 : Int), .i .i64 p.2.1, .i .i64 p.2.2]) rfl
theorem Nhf (st : St) (p : Int × Int × Int) : Nav st (NdY p) = some (NdY p) := Nak (vs := [.i .i64 p.1, .i .i64 p.2.1, .i .i64 p.2.2]) rfl
theorem Nm1 {Gl : Gmap} : CfgOK Go.Proofs.Try.prog Gl cfgG := by
 refine Na7 Na5 ?_
 intro f g h
 unfold Np4 at h
 split at h
 ·rename_i e; simp only [Sj] at h; subst h; subst e
  exact NjM
 ·simp at h
def Npd : FuncId → Option (List PV → Option PV) := fun f => if f = 47 then some Nel else if f = 53 then some NjS else none
noncomputable def cfgK1 : Cfg := { fn := fun f => NbX f tblL, ext := Npd }
theorem Nd4 {Gl : Gmap} : CfgOK Go.Proofs.Try.prog Gl cfgK1 := by
 refine Na7 Na5 ?_
 intro f g h
 unfold Npd at h
 split at h
 ·rename_i e; simp only [Sj] at h; subst h; subst e
  exact Nao NbA NiG
 split at h
 ·rename_i e; simp only [Sj] at h; subst h; subst e
  exact Nao NbA Nlg
 ·simp at h
theorem NfP (args : List PV) (r : PV) (h : Nej args = some r) : ∃ fuel, evP cfgK1 fuel 34 args = some r := by
 unfold Nej at h
 split at h
 ·split at h
  ·rename_i l hl
   split at h
   ·rename_i hc
    simp only [Sj] at h
    subst h
    exact ⟨12 + 1, Nbr (by kernel_rfl) (NaT hl) (fun st => Nin st _) (Nnp (cfg := cfgK1) (by kernel_rfl) (by kernel_rfl) hl hc)⟩
   ·simp at h
  ·simp at h
 ·simp at h
theorem NmT (args : List PV) (r : PV) (h : No5 args = some r) : ∃ fuel, evP cfgK1 fuel 45 args = some r := by
 unfold No5 at h
 split at h
 ·split at h
  ·rename_i l hl
   split at h
   ·rename_i hc
    simp only [Sj] at h
    subst h
    exact ⟨l.length + 1 + 1, Nbr (by kernel_rfl) (NaT hl) (fun st => rfl) (NoO (cfg := cfgK1) (by kernel_rfl) (by kernel_rfl) hl hc (by omega))⟩
   ·simp at h
  ·simp at h
 ·simp at h
def Nox : FuncId → Option (List PV → Option PV) := fun f => if f = 34 then some Nej else if f = 43 then some NeD else if f = 45 then some No5 else if f = 46 then some Neg else none
noncomputable def cfgK2 : Cfg := { fn := fun f => NbX f tblL, ext := Nox }
theorem Nf3 {Gl : Gmap} : CfgOK Go.Proofs.Try.prog Gl cfgK2 := by
 refine Na7 Na5 ?_
 intro f g h
 unfold Nox at h
 split at h
 ·rename_i e; simp only [Sj] at h; subst h; subst e
  exact Nao Nd4 NfP
 split at h
 ·rename_i e; simp only [Sj] at h; subst h; subst e
  exact Nao NbA NiY
 split at h
 ·rename_i e; simp only [Sj] at h; subst h; subst e
  exact Nao Nd4 NmT
 split at h
 ·rename_i e; simp only [Sj] at h; subst h; subst e
  exact Nao Nm1 Ni9
 ·simp at h
theorem Nlw (args : List PV) (r : PV) (h : Ni1 args = some r) : ∃ fuel, evP cfgK2 fuel 29 args = some r := by
 unfold Ni1 at h
 split at h
 ·split at h
  ·rename_i l hl
   split at h
   ·rename_i hc
    simp only [Sj] at h
    subst h
    exact ⟨12 + 1, Nbr (by kernel_rfl) (NaT hl) (fun st => Nhf st _) (Nmv (cfg := cfgK2) (by kernel_rfl) (by kernel_rfl) (by kernel_rfl) hl hc)⟩
   ·simp at h
  ·simp at h
 ·simp at h
theorem NhK (args : List PV) (r : PV) (h : Ngm args = some r) : ∃ fuel, evP cfgK2 fuel 33 args = some r := by
 unfold Ngm at h
 split at h
 ·split at h
  ·rename_i l hl
   split at h
   ·rename_i hc
    simp only [Sj] at h
    subst h
    obtain ⟨r, st', e1, k, e2, e3⟩ := Nna (cfg := cfgK2) (by kernel_rfl) (by kernel_rfl) (by kernel_rfl) (fuel := 12) (st := { sto := .leaf, cnt := 1 }) hl hc
    exact ⟨12 + 1, Nby (by kernel_rfl) (NaT hl) ⟨r, st', e1, by rw [e2]; exact NaK e3⟩⟩
   ·simp at h
  ·simp at h
 ·simp at h
def NoY : FuncId → Option (List PV → Option PV) := fun f => if f = 29 then some Ni1 else if f = 33 then some Ngm else if f = 48 then some Ngw else if f = 49 then some gClone else none
noncomputable def cfgK3 : Cfg := { fn := fun f => NbX f tblL, ext := NoY }
theorem NfZ {Gl : Gmap} : CfgOK Go.Proofs.Try.prog Gl cfgK3 := by
 refine Na7 Na5 ?_
 intro f g h
 unfold NoY at h
 split at h
 ·rename_i e; simp only [Sj] at h; subst h; subst e
  exact Nao Nf3 Nlw
 split at h
 ·rename_i e; simp only [Sj] at h; subst h; subst e
  exact Nao Nf3 NhK
 split at h
 ·rename_i e; simp only [Sj] at h; subst h; subst e
  exact Nao NbA Njm
 split at h
 ·rename_i e; simp only [Sj] at h; subst h; subst e
  exact NlG
 ·simp at h
theorem NjO (args : List PV) (r : PV) (h : gGetE args = some r) : ∃ fuel, evP cfgK3 fuel 11 args = some r := by
 unfold gGetE at h
 split at h
 ·split at h
  ·rename_i l hl
   split at h
   ·rename_i hc
    simp only [Sj] at h
    subst h
    exact ⟨12 + 1 + 1, Nby (by kernel_rfl) (NaT hl) (NoS (cfg := cfgK3) (by kernel_rfl) (by kernel_rfl) (by kernel_rfl) (by kernel_rfl) hl hc)⟩
   ·simp at h
  ·simp at h
 ·simp at h
theorem Nio (args : List PV) (r : PV) (h : NeR args = some r) : ∃ fuel, evP cfgK3 fuel 35 args = some r := by
 unfold NeR at h
 split at h
 ·split at h
  ·rename_i l hl
   split at h
   ·rename_i hc
    simp only [Sj] at h
    subst h
    exact ⟨12 + 1, Nby (by kernel_rfl) (NaT hl) (NkE (cfg := cfgK3) (by kernel_rfl) (by kernel_rfl) (by kernel_rfl) (by kernel_rfl) hl hc)⟩
   ·simp at h
  ·simp at h
 ·simp at h
def No2 : FuncId → Option (List PV → Option PV) := fun f => if f = 34 then some Nej else if f = 11 then some gGetE else none
noncomputable def cfgK4 : Cfg := { fn := fun f => NbX f tblL, ext := No2 }
theorem NkW {Gl : Gmap} : CfgOK Go.Proofs.Try.prog Gl cfgK4 := by
 refine Na7 Na5 ?_
 intro f g h
 unfold No2 at h
 split at h
 ·rename_i e; simp only [Sj] at h; subst h; subst e
  exact Nao Nd4 NfP
 split at h
 ·rename_i e; simp only [Sj] at h; subst h; subst e
  exact Nao NfZ NjO
 ·simp at h
theorem NiF (args : List PV) (r : PV) (h : NeB args = some r) : ∃ fuel, evP cfgK4 fuel 36 args = some r := by
 unfold NeB at h
 split at h
 ·split at h
  ·rename_i l hl
   split at h
   ·rename_i hc
    simp only [Sj] at h
    subst h
    exact ⟨4100 + 1, Nby (by kernel_rfl) (NaT hl) (Nkh (cfg := cfgK4) (by kernel_rfl) (by kernel_rfl) (by kernel_rfl) (by omega) hl hc)⟩
   ·simp at h
  ·simp at h
 ·simp at h
def NoG : FuncId → Option (List PV → Option PV) := fun f => if f = 34 then some Nej else if f = 35 then some NeR else if f = 36 then some NeB else none
noncomputable def cfgK5 : Cfg := { fn := fun f => NbX f tblL, ext := NoG }
theorem NlP {Gl : Gmap} : CfgOK Go.Proofs.Try.prog Gl cfgK5 := by
 refine Na7 Na5 ?_
 intro f g h
 unfold NoG at h
 split at h
 ·rename_i e; simp only [Sj] at h; subst h; subst e
  exact Nao Nd4 NfP
 split at h
 ·rename_i e; simp only [Sj] at h; subst h; subst e
  exact Nao NfZ Nio
 split at h
 ·rename_i e; simp only [Sj] at h; subst h; subst e
  exact Nao NkW NiF
 ·simp at h
theorem NlO (args : List PV) (r : PV) (h : gRead args = some r) : ∃ fuel, evP cfgK5 fuel 15 args = some r := by
 unfold gRead at h
 split at h
 ·split at h
  ·rename_i l hl
   split at h
   ·rename_i hc
    simp only [Sj] at h
    subst h
    exact ⟨12 + 1, Nby (by kernel_rfl) (NaT hl) (Nnh (cfg := cfgK5) (by kernel_rfl) (by kernel_rfl) (by kernel_rfl) (by kernel_rfl) hl hc)⟩
   ·simp at h
  ·simp at h
 ·simp at h
def Nop : FuncId → Option (List PV → Option PV) := fun f => if f = 32 then some Ngg else if f = 10 then some gPut else if f = 33 then some Ngm else none
noncomputable def cfgK6 : Cfg := { fn := fun f => NbX f tblL, ext := Nop }
theorem NlM {Gl : Gmap} : CfgOK Go.Proofs.Try.prog Gl cfgK6 := by
 refine Na7 Na5 ?_
 intro f g h
 unfold Nop at h
 split at h
 ·rename_i e; simp only [Sj] at h; subst h; subst e
  exact Nao NbA NhG
 split at h
 ·rename_i e; simp only [Sj] at h; subst h; subst e
  exact Nao NfR NhB
 split at h
 ·rename_i e; simp only [Sj] at h; subst h; subst e
  exact Nao Nf3 NhK
 ·simp at h
theorem Nkc (args : List PV) (r : PV) (h : gFrame args = some r) : ∃ fuel, evP cfgK6 fuel 14 args = some r := by
 unfold gFrame at h
 split at h
 ·simp only [Sj] at h
  subst h
  exact ⟨4100 + 1, Nby (by kernel_rfl) rfl (NhP (cfg := cfgK6) (by kernel_rfl) (by kernel_rfl) (by kernel_rfl) (by kernel_rfl) (by omega) (v := .nsl) (l := []) rfl (by decide))⟩
 ·split at h
  ·rename_i n cs l hl
   split at h
   ·rename_i hc
    simp only [Sj] at h
    subst h
    obtain ⟨rfl, hn⟩ := hc
    have hcs := Nfl _ (Nat.le_refl _) hl
    subst hcs
    exact ⟨4100 + 1, Nby (by kernel_rfl) rfl (NhP (cfg := cfgK6) (by kernel_rfl) (by kernel_rfl) (by kernel_rfl) (by kernel_rfl) (by omega) (v := .fsl l.length (Na4 l)) (l := l) ⟨rfl, rfl⟩ hn)⟩
   ·simp at h
  ·simp at h
 ·simp at h
end Go.Pe
