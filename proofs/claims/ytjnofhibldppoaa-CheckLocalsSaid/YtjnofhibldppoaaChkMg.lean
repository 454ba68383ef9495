/-
 Check: what is wrong with a program, as a function of cells. No condition.
-/
import Derived.Test.YtjnofhibldppoaaChkMf
import Derived.Test.YtjnofhibldppoaaPrgC
import Derived.Test.YtjnofhibldppoaaChkA
set_option linter.unusedVariables false
set_option linter.unusedSimpArgs false
namespace Go.Pe
open Go Go.Am Go.RowKit

theorem NiH : CfgM cfgNx where
 nx := by rfl
 fn := fun _ _ h => h
 x1 := by rfl
 x2 := by rfl
 x3 := by rfl
 x4 := by rfl
 x5 := by rfl
 x6 := by rfl
 x7 := by rfl
 x8 := by rfl
 x9 := by rfl
 y1 := by rfl
 y2 := by rfl
 y3 := by rfl
 y4 := by rfl
 y5 := by rfl
 y6 := by rfl
 z1 := by rfl
 z2 := by rfl
 z3 := by rfl
 z4 := by rfl
 z5 := by rfl
 z6 := by rfl
 z7 := by rfl
 z8 := by rfl
def NeB : List PV → Option PV
 | [.agg cs] => match Nkg 40 cs with
   | none => none
   | some p => if Nat.blt (Tds.size p.T + p.D.length) 1000000000 = true then some (.agg [.i .i64 (Ndv p).1, .i .i64 (Ndv p).2]) else none
 | _ => none
theorem Ngy (args : List PV) (r : PV) (h : NeB args = some r) : ∃ fuel, evP cfgNx fuel 9 args = some r := by
 unfold NeB at h
 split at h
 ·rename_i cs
  cases hp : Nkg 40 cs with
  | none => rw [hp] at h; simp at h
  | some p =>
    rw [hp] at h
    simp only at h
    split at h
    ·rename_i hb
     have hb2 : Tds.size p.T + p.D.length < 1000000000 := by
      have : Tds.size p.T + p.D.length ≤ 999999999 := by simpa [Nat.blt] using hb
      omega
     simp only [Sj] at h
     subst h
     rw [Niz 40 cs p hp]
     refine ⟨(Tds.size p.T + p.D.length + 40) + 3, NgG (by rfl) (Nep _ _) (fun _ => rfl) (NgQ NiH (Nat.le_refl _) hb2)⟩
    ·cases h
 ·cases h
def Nia : FuncId → Option (List PV → Option PV) := fun f => if f = 64 then some gNext else if f = 10 then some NeC else if f = 9 then some NeB else none
theorem Nha {Gl : Gmap} {m : Int} (hg : Gl 0 0 = some (.int .i64 m)) : ∀ f g, Nia f = some g → Nbi Go.Proofs.Try.prog Gl f g := by
 intro f g h
 unfold Nia at h
 split at h
 ·rename_i e; simp only [Sj] at h; subst h; subst e
  exact Nd0 (Ne2 hg)
 split at h
 ·rename_i e; simp only [Sj] at h; subst h; subst e
  exact Ngj (Ne9 hg) NdY
 split at h
 ·rename_i e; simp only [Sj] at h; subst h; subst e
  exact Ngj (Ne9 hg) Ngy
 ·cases h
end Go.Pe
