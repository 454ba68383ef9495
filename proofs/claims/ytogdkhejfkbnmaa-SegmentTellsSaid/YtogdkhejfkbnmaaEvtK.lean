/-
 Events: what is read and framed, told by contracts, at the seat. No condition.
-/
import Derived.Test.YtogdkhejfkbnmaaEvtS2
import Derived.Test.YtogdkhejfkbnmaaEvtH
set_option linter.unusedVariables false
namespace Go.Pe
open Go Go.Am Go.RowKit

theorem NkF (args : List PV) (r : PV) (h : NeU args = some r) : ∃ fuel, evP cfgE0 fuel 84 args = some r := by
 unfold NeU at h
 split at h
 ·rename_i n
  split at h
  ·rename_i hc
   simp only [Sj] at h
   subst h
   have := Nly (cfg := cfgE0) (by kernel_rfl) (fuel := 6) (st := { sto := .leaf, cnt := 1 }) (n := n.toNat) (by omega)
   rw [show ((n.toNat : Nat) : Int) = n by omega] at this
   exact ⟨6 + 1, Nbe rfl rfl (fun _ => rfl) this⟩
  ·simp at h
 ·simp at h
theorem Nkt (st : St) (p : Nat × Int × Int) : Naq st (Nil p) = some (Nil p) := Nal (vs := [.i .u64 (p.1 : Int), .i .i64 p.2.1, .i .i64 p.2.2]) rfl
theorem Nik (st : St) (p : Int × Int × Int) : Naq st (Neu p) = some (Neu p) := Nal (vs := [.i .i64 p.1, .i .i64 p.2.1, .i .i64 p.2.2]) rfl
theorem Npm {Gl : Gmap} : CfgOK Go.Proofs.Try.prog Gl cfgG := by
 refine NaP NaQ ?_
 intro f g h
 unfold Ntn at h
 split at h
 ·rename_i e; simp only [Sj] at h; subst h; subst e
  exact Nlo
 ·simp at h
def NrJ : FuncId → Option (List PV → Option PV) := fun f => if f = 74 then some NeS else if f = 80 then some Nls else none
noncomputable def cfgK1 : Cfg := { fn := fun f => Nbr f tblL, ext := NrJ }
theorem NdC {Gl : Gmap} : CfgOK Go.Proofs.Try.prog Gl cfgK1 := by
 refine NaP NaQ ?_
 intro f g h
 unfold NrJ at h
 split at h
 ·rename_i e; simp only [Sj] at h; subst h; subst e
  exact Nam Nbg NkM
 split at h
 ·rename_i e; simp only [Sj] at h; subst h; subst e
  exact Nam Nbg Nnb
 ·simp at h
theorem NeK (args : List PV) (r : PV) (h : NcM args = some r) : ∃ fuel, evP cfgK1 fuel 45 args = some r := by
 unfold NcM at h
 split at h
 ·split at h
  ·rename_i l hl
   split at h
   ·rename_i hc
    simp only [Sj] at h
    subst h
    exact ⟨12 + 1, Nbe (by kernel_rfl) (NaH hl) (fun st => Nkt st _) (Npc (cfg := cfgK1) (by kernel_rfl) (by kernel_rfl) hl hc)⟩
   ·simp at h
  ·simp at h
 ·simp at h
theorem NpZ (args : List PV) (r : PV) (h : NrD args = some r) : ∃ fuel, evP cfgK1 fuel 54 args = some r := by
 unfold NrD at h
 split at h
 ·split at h
  ·rename_i l hl
   split at h
   ·rename_i hc
    simp only [Sj] at h
    subst h
    exact ⟨l.length + 1 + 1, Nbe (by kernel_rfl) (NaH hl) (fun st => rfl) (Nrq (cfg := cfgK1) (by kernel_rfl) (by kernel_rfl) hl hc (by omega))⟩
   ·simp at h
  ·simp at h
 ·simp at h
def Nrj : FuncId → Option (List PV → Option PV) := fun f => if f = 45 then some NcM else if f = 84 then some NeU else if f = 54 then some NrD else if f = 55 then some NeM else none
noncomputable def cfgK2 : Cfg := { fn := fun f => Nbr f tblL, ext := Nrj }
theorem NeJ {Gl : Gmap} : CfgOK Go.Proofs.Try.prog Gl cfgK2 := by
 refine NaP NaQ ?_
 intro f g h
 unfold Nrj at h
 split at h
 ·rename_i e; simp only [Sj] at h; subst h; subst e
  exact Nam NdC NeK
 split at h
 ·rename_i e; simp only [Sj] at h; subst h; subst e
  exact Nam Nbg NkF
 split at h
 ·rename_i e; simp only [Sj] at h; subst h; subst e
  exact Nam NdC NpZ
 split at h
 ·rename_i e; simp only [Sj] at h; subst h; subst e
  exact Nam Npm Nks
 ·simp at h
theorem NjA (args : List PV) (r : PV) (h : NfI args = some r) : ∃ fuel, evP cfgK2 fuel 75 args = some r := by
 unfold NfI at h
 split at h
 ·split at h
  ·rename_i l hl
   split at h
   ·rename_i hc
    simp only [Sj] at h
    subst h
    exact ⟨12 + 1, Nbe (by kernel_rfl) (NaH hl) (fun st => Nik st _) (NoV (cfg := cfgK2) (by kernel_rfl) (by kernel_rfl) (by kernel_rfl) hl hc)⟩
   ·simp at h
  ·simp at h
 ·simp at h
theorem Njx (args : List PV) (r : PV) (h : NfJ args = some r) : ∃ fuel, evP cfgK2 fuel 31 args = some r := by
 unfold NfJ at h
 split at h
 ·split at h
  ·rename_i l hl
   split at h
   ·rename_i hc
    simp only [Sj] at h
    subst h
    obtain ⟨r, st', e1, k, e2, e3⟩ := Nqi (cfg := cfgK2) (by kernel_rfl) (by kernel_rfl) (by kernel_rfl) (fuel := 12) (st := { sto := .leaf, cnt := 1 }) hl hc
    exact ⟨12 + 1, Na2 (by kernel_rfl) (NaH hl) ⟨r, st', e1, by rw [e2]; exact NaX e3⟩⟩
   ·simp at h
  ·simp at h
 ·simp at h
def Nrg : FuncId → Option (List PV → Option PV) := fun f => if f = 75 then some NfI else if f = 31 then some NfJ else if f = 71 then some Nhk else if f = 72 then some gClone else none
noncomputable def cfgK3 : Cfg := { fn := fun f => Nbr f tblL, ext := Nrg }
theorem NgX {Gl : Gmap} : CfgOK Go.Proofs.Try.prog Gl cfgK3 := by
 refine NaP NaQ ?_
 intro f g h
 unfold Nrg at h
 split at h
 ·rename_i e; simp only [Sj] at h; subst h; subst e
  exact Nam NeJ NjA
 split at h
 ·rename_i e; simp only [Sj] at h; subst h; subst e
  exact Nam NeJ Njx
 split at h
 ·rename_i e; simp only [Sj] at h; subst h; subst e
  exact Nam Nbg Nli
 split at h
 ·rename_i e; simp only [Sj] at h; subst h; subst e
  exact Nob
 ·simp at h
theorem Npl (args : List PV) (r : PV) (h : NlM args = some r) : ∃ fuel, evP cfgK3 fuel 83 args = some r := by
 unfold NlM at h
 split at h
 ·split at h
  ·rename_i l hl
   split at h
   ·rename_i hc
    simp only [Sj] at h
    subst h
    exact ⟨12 + 1 + 1, Na2 (by kernel_rfl) (NaH hl) (NrB (cfg := cfgK3) (by kernel_rfl) (by kernel_rfl) (by kernel_rfl) (by kernel_rfl) hl hc)⟩
   ·simp at h
  ·simp at h
 ·simp at h
theorem Nf2 (args : List PV) (r : PV) (h : Ncj args = some r) : ∃ fuel, evP cfgK3 fuel 43 args = some r := by
 unfold Ncj at h
 split at h
 ·split at h
  ·rename_i l hl
   split at h
   ·rename_i hc
    simp only [Sj] at h
    subst h
    exact ⟨12 + 1, Na2 (by kernel_rfl) (NaH hl) (NkX (cfg := cfgK3) (by kernel_rfl) (by kernel_rfl) (by kernel_rfl) (by kernel_rfl) hl hc)⟩
   ·simp at h
  ·simp at h
 ·simp at h
def Nq6 : FuncId → Option (List PV → Option PV) := fun f => if f = 45 then some NcM else if f = 83 then some NlM else none
noncomputable def cfgK4 : Cfg := { fn := fun f => Nbr f tblL, ext := Nq6 }
theorem Nnw {Gl : Gmap} : CfgOK Go.Proofs.Try.prog Gl cfgK4 := by
 refine NaP NaQ ?_
 intro f g h
 unfold Nq6 at h
 split at h
 ·rename_i e; simp only [Sj] at h; subst h; subst e
  exact Nam NdC NeK
 split at h
 ·rename_i e; simp only [Sj] at h; subst h; subst e
  exact Nam NgX Npl
 ·simp at h
theorem Nj0 (args : List PV) (r : PV) (h : Nfe args = some r) : ∃ fuel, evP cfgK4 fuel 58 args = some r := by
 unfold Nfe at h
 split at h
 ·split at h
  ·rename_i l hl
   split at h
   ·rename_i hc
    simp only [Sj] at h
    subst h
    exact ⟨4100 + 1, Na2 (by kernel_rfl) (NaH hl) (Nmo (cfg := cfgK4) (by kernel_rfl) (by kernel_rfl) (by kernel_rfl) (by omega) hl hc)⟩
   ·simp at h
  ·simp at h
 ·simp at h
def Nrv : FuncId → Option (List PV → Option PV) := fun f => if f = 45 then some NcM else if f = 43 then some Ncj else if f = 58 then some Nfe else none
noncomputable def cfgK5 : Cfg := { fn := fun f => Nbr f tblL, ext := Nrv }
theorem Nm2 {Gl : Gmap} : CfgOK Go.Proofs.Try.prog Gl cfgK5 := by
 refine NaP NaQ ?_
 intro f g h
 unfold Nrv at h
 split at h
 ·rename_i e; simp only [Sj] at h; subst h; subst e
  exact Nam NdC NeK
 split at h
 ·rename_i e; simp only [Sj] at h; subst h; subst e
  exact Nam NgX Nf2
 split at h
 ·rename_i e; simp only [Sj] at h; subst h; subst e
  exact Nam Nnw Nj0
 ·simp at h
theorem Noc (args : List PV) (r : PV) (h : NjZ args = some r) : ∃ fuel, evP cfgK5 fuel 38 args = some r := by
 unfold NjZ at h
 split at h
 ·split at h
  ·rename_i l hl
   split at h
   ·rename_i hc
    simp only [Sj] at h
    subst h
    exact ⟨12 + 1, Na2 (by kernel_rfl) (NaH hl) (Np9 (cfg := cfgK5) (by kernel_rfl) (by kernel_rfl) (by kernel_rfl) (by kernel_rfl) hl hc)⟩
   ·simp at h
  ·simp at h
 ·simp at h
end Go.Pe
