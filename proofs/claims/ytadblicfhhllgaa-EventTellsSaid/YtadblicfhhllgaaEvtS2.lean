/-
 Events: calls by value: an event laid out, an event moved. No condition.
-/
import Derived.Test.YtadblicfhhllgaaEvtQ
import Derived.Test.YtadblicfhhllgaaEvtS
set_option linter.unusedVariables false
set_option linter.unusedSimpArgs false
namespace Go.Pe
open Go Go.Am Go.RowKit

def gPut : List PV → Option PV
 | [v, .agg [.i .i64 a0, .i .u8 a1, .i .i64 a2, .i .i64 a3, .i .i64 a4], .agg [.i .i64 b0, .i .u8 b1, .i .i64 b2, .i .i64 b3, .i .i64 b4]] => match Njb v with
   | some l => if 0 ≤ b1 ∧ b1 < 256 ∧ l.length + 60 ≤ maxBytes then some (.osl 1 (Nl5 l b1.toNat.toUInt8 a0 a2 a3 a4 b0 b2 b3 b4).length (Nab (Nl5 l b1.toNat.toUInt8 a0 a2 a3 a4 b0 b2 b3 b4))) else none
   | none => none
 | _ => none
theorem NhB (args : List PV) (r : PV) (h : gPut args = some r) : ∃ fuel, evP cfgE2 fuel 10 args = some r := by
 unfold gPut at h
 split at h
 ·rename_i v a0 a1 a2 a3 a4 b0 b1 b2 b3 b4
  split at h
  ·rename_i l hl
   split at h
   ·rename_i hc
    simp only [Sj] at h
    subst h
    obtain ⟨v', e1, e2, e3⟩ := NfE (rest := [.agg [.i .i64 a0, .i .u8 a1, .i .i64 a2, .i .i64 a3, .i .i64 a4], .agg [.i .i64 b0, .i .u8 b1, .i .i64 b2, .i .i64 b3, .i .i64 b4]]) hl
    refine ⟨0 + 1 + 1, NfO rfl ?_⟩
    rw [e1]
    obtain ⟨r, st', h1, q, h2, h3⟩ := NoN (cfg := cfgE2) (by kernel_rfl) (by kernel_rfl) rfl rfl (fuel := 0) e2 hc.2.2 (a0 := a0) (a1 := a1) (a2 := a2) (a3 := a3) (a4 := a4) (b0 := b0) (b2 := b2) (b3 := b3) (b4 := b4) (op := b1.toNat.toUInt8)
    rw [show (((b1.toNat.toUInt8).toNat : Nat) : Int) = b1 by rw [Nat.toUInt8, UInt8.toNat_ofNat']; omega] at h1
    exact ⟨r, st', h1, by rw [h2]; exact NaK h3⟩
   ·simp at h
  ·simp at h
 ·simp at h

theorem NbA {Gl : Gmap} : CfgOK Go.Proofs.Try.prog Gl cfgE0 := Na7 Na5 fun f g h => by simp at h
theorem NlE {Gl : Gmap} : CfgOK Go.Proofs.Try.prog Gl cfgE1 := by
 refine Na7 Na5 ?_
 intro f g h
 unfold NoI at h
 split at h
 ·rename_i e; simp only [Sj] at h; subst h; subst e
  exact Nao NbA NkU
 split at h
 ·rename_i e; simp only [Sj] at h; subst h; subst e
  exact Nao NbA NhG
 ·simp at h
theorem NfR {Gl : Gmap} : CfgOK Go.Proofs.Try.prog Gl cfgE2 := by
 refine Na7 Na5 ?_
 intro f g h
 unfold Noo at h
 split at h
 ·rename_i e; simp only [Sj] at h; subst h; subst e
  exact Nao NlE NmZ
 ·simp at h
end Go.Pe
