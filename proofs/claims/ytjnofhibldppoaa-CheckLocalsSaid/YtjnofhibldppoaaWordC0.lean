/-
 Words: the token at a place, told by contract, at the seat. No condition.
-/
import Derived.Test.YtjnofhibldppoaaWordsQ
import Derived.Test.YtjnofhibldppoaaShelf
set_option linter.unusedVariables false
namespace Go.Pe
open Go Go.Am Go.RowKit

theorem Ne2 {Gl : Gmap} {m : Int} (hg : Gl 0 0 = some (.int .i64 m)) : CfgOK Go.Proofs.Try.prog Gl cfgW := by
 refine NeP NeR ?_
 intro f g h
 unfold Nl9 at h
 split at h
 ·rename_i e; simp only [Sj] at h; subst h; subst e
  exact NeJ hg fun s sub m w hs hm => Go.Proofs.Try.strings_Contains s sub m w hs hm
 ·split at h
  ·rename_i e; simp only [Sj] at h; subst h; subst e
   exact Ng1 fun s c w => Go.Proofs.Try.strings_Count_one s c w
  ·split at h
   ·rename_i e; simp only [Sj] at h; subst h; subst e
    exact NdV fun s c w => Go.Proofs.Try.strings_IndexByte s c w
   ·simp at h
def Ni5 : FuncId → Option (List PV → Option PV) := fun f => if f = 64 then some gNext else none
theorem Nht {Gl : Gmap} {m : Int} (hg : Gl 0 0 = some (.int .i64 m)) : ∀ f g, Ni5 f = some g → Nbi Go.Proofs.Try.prog Gl f g := by
 intro f g h
 unfold Ni5 at h
 split at h
 ·rename_i e; simp only [Sj] at h; subst h; subst e
  exact Nd0 (Ne2 hg)
 ·cases h
noncomputable def cfgNx : Cfg := { fn := fun f => Nen f tblL, ext := Ni5 }
theorem Ne9 {Gl : Gmap} {m : Int} (hg : Gl 0 0 = some (.int .i64 m)) : CfgOK Go.Proofs.Try.prog Gl cfgNx := NeP NeR (Nht hg)
theorem NeT {w : World} (h : w.ShapedOpen Go.Proofs.Try.prog) : ∃ m, w.cell? ⟨0, 0, none⟩ = some (.int .i64 m) := Go.Proofs.Try.laysM144.s1_3 w h
end Go.Pe
