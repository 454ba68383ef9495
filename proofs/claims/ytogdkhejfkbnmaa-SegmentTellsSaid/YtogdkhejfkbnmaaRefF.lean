/-
 The document's answer for layer 3: a frame made, a frame read, by the interpreter of plain data. No condition.
-/
import Derived.Test.YtogdkhejfkbnmaaRefE
set_option linter.unusedVariables false
set_option linter.unusedSimpArgs false
namespace Go.Pe
open Go Go.Am Go.RowKit

def Nkw : List PV → Option PV
 | [v, .i .i64 at0, .agg [.i .i64 a0, .i .u8 a1, .i .i64 a2, .i .i64 a3, .i .i64 a4]] => match inL v with
   | some l => if 0 ≤ a1 ∧ a1 < 256 ∧ l.length ≤ 140737488355327 then some (Nnv (Ncf l at0 ⟨a0, a1.toNat.toUInt8, a2, a3, a4⟩)) else none
   | none => none
 | _ => none
theorem Nnl (args : List PV) (r : PV) (h : Nkw args = some r) : ∃ fuel, evP cfgR6 fuel 77 args = some r := by
 unfold Nkw at h
 split at h
 ·rename_i v at0 a0 a1 a2 a3 a4
  split at h
  ·rename_i l hl
   split at h
   ·rename_i hc
    simp only [Sj] at h
    subst h
    have ha := Ne5 ⟨hc.1, hc.2.1⟩
    obtain ⟨r, st', h1, h2⟩ := Npr (cfg := cfgR6) (by kernel_rfl) (by kernel_rfl) (by kernel_rfl) hl hc.2.2 (a := at0) (X := ⟨a0, a1.toNat.toUInt8, a2, a3, a4⟩) (fuel := 6) (Nat.le_refl _)
    refine ⟨6 + 1, Na2 (by kernel_rfl) (NaH hl) ?_⟩
    unfold evC at h1
    simp only [ha] at h1
    exact ⟨r, st', h1, by rw [h2]; rfl⟩
   ·simp at h
  ·simp at h
 ·simp at h
def Nr2 : FuncId → Option (List PV → Option PV) := fun f => if f = 36 then some NpO else if f = 77 then some Nkw else if f = 35 then some Nd5 else if f = 16 then some gRSeal else if f = 76 then some Nce else none
noncomputable def cfgR7 : Cfg := { fn := fun f => Nbr f tblL, ext := Nr2 }
theorem Nod {Gl : Gmap} : CfgOK Go.Proofs.Try.prog Gl cfgR7 := by
 refine NaP NaQ ?_
 intro f g h
 unfold Nr2 at h
 split at h
 ·rename_i e; simp only [Sj] at h; subst h; subst e
  exact Nam NjV NnZ
 split at h
 ·rename_i e; simp only [Sj] at h; subst h; subst e
  exact Nam NjV Nnl
 split at h
 ·rename_i e; simp only [Sj] at h; subst h; subst e
  exact Nam NbG Ndo
 split at h
 ·rename_i e; simp only [Sj] at h; subst h; subst e
  exact Nam New NdA
 split at h
 ·rename_i e; simp only [Sj] at h; subst h; subst e
  exact Nam NcC NdX
 ·simp at h
theorem Ngw (e : Ev) : (evC e).take 5 = evC e := Eq.trans rfl rfl
theorem NgP (e : Ev) : (evC e).length = 5 := Eq.trans rfl rfl
theorem Nez (e : Ev) : (evC e).all PV.one = true := Eq.trans rfl rfl
end Go.Pe
