/-
 Words: the token at a place, told by contract, at the seat. No condition.
-/
import Derived.Test.YtdodmlebinomjaaDoorWordsQ
import Derived.Test.YtdodmlebinomjaaDoorShelf
set_option linter.unusedVariables false
namespace Go.Pe
open Go Go.Am Go.RowKit

theorem Ner {Gl : Gmap} {m : Int} (hg : Gl 1 0 = some (.int .i64 m)) : CfgOK Go.Proofs.Tryd.prog Gl cfgW := by
 refine Nd3 Nep ?_
 intro f g h
 unfold Ntf at h
 split at h
 ·rename_i e; simp only [Sj] at h; subst h; subst e
  exact Nd7 hg fun s sub m w hs hm => Go.Proofs.Tryd.strings_Contains s sub m w hs hm
 ·split at h
  ·rename_i e; simp only [Sj] at h; subst h; subst e
   exact Niu fun s c w => Go.Proofs.Tryd.strings_Count_one s c w
  ·split at h
   ·rename_i e; simp only [Sj] at h; subst h; subst e
    exact NdI fun s c w => Go.Proofs.Tryd.strings_IndexByte s c w
   ·simp at h
def Nnp : FuncId → Option (List PV → Option PV) := fun f => if f = 40 then some gNext else none
theorem Nix {Gl : Gmap} {m : Int} (hg : Gl 1 0 = some (.int .i64 m)) : ∀ f g, Nnp f = some g → Na1 Go.Proofs.Tryd.prog Gl f g := by
 intro f g h
 unfold Nnp at h
 split at h
 ·rename_i e; simp only [Sj] at h; subst h; subst e
  exact NdM (Ner hg)
 ·cases h
noncomputable def cfgNx : Cfg := { fn := fun f => Nee f tblL, ext := Nnp }
theorem Ndh {Gl : Gmap} {m : Int} (hg : Gl 1 0 = some (.int .i64 m)) : CfgOK Go.Proofs.Tryd.prog Gl cfgNx := Nd3 Nep (Nix hg)
theorem Nef {w : World} (h : w.ShapedOpen Go.Proofs.Tryd.prog) : ∃ m, w.cell? ⟨1, 0, none⟩ = some (.int .i64 m) := Go.Proofs.Tryd.laysM144.s1_3 w h
end Go.Pe
