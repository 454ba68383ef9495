/-
 Words: the token at a place, told by contract, at the seat. No condition.
-/
import Derived.Test.YtjnofhibldppoaaWordsQ
import Derived.Test.YtjnofhibldppoaaShelf
set_option linter.unusedVariables false
namespace Go.Pe
open Go Go.Am Go.RowKit

theorem Ne5 {Gl : Gmap} {m : Int} (hg : Gl 0 0 = some (.int .i64 m)) : CfgOK Go.Proofs.Try.prog Gl cfgW := by
 refine NeR Nev ?_
 intro f g h
 unfold NmK at h
 split at h
 ·rename_i e; simp only [Sj] at h; subst h; subst e
  exact NeS hg fun s sub m w hs hm => Go.Proofs.Try.strings_Contains s sub m w hs hm
 ·split at h
  ·rename_i e; simp only [Sj] at h; subst h; subst e
   exact Ni1 fun s c w => Go.Proofs.Try.strings_Count_one s c w
  ·split at h
   ·rename_i e; simp only [Sj] at h; subst h; subst e
    exact Nd3 fun s c w => Go.Proofs.Try.strings_IndexByte s c w
   ·simp at h
def Njw : FuncId → Option (List PV → Option PV) := fun f => if f = 64 then some gNext else none
theorem Nin {Gl : Gmap} {m : Int} (hg : Gl 0 0 = some (.int .i64 m)) : ∀ f g, Njw f = some g → Nbd Go.Proofs.Try.prog Gl f g := by
 intro f g h
 unfold Njw at h
 split at h
 ·rename_i e; simp only [Sj] at h; subst h; subst e
  exact Nee (Ne5 hg)
 ·cases h
noncomputable def cfgNx : Cfg := { fn := fun f => Nd0 f tblL, ext := Njw }
theorem NdK {Gl : Gmap} {m : Int} (hg : Gl 0 0 = some (.int .i64 m)) : CfgOK Go.Proofs.Try.prog Gl cfgNx := NeR Nev (Nin hg)
theorem NeA {w : World} (h : w.ShapedOpen Go.Proofs.Try.prog) : ∃ m, w.cell? ⟨0, 0, none⟩ = some (.int .i64 m) := Go.Proofs.Try.laysM144.s1_3 w h
end Go.Pe
