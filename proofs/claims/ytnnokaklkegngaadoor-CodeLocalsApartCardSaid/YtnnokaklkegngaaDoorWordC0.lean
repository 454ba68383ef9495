/-
 Words: the token at a place, told by contract, at the seat. No condition.
-/
import Derived.Test.YtnnokaklkegngaaDoorWordsQ
import Derived.Test.YtnnokaklkegngaaDoorShelf
set_option linter.unusedVariables false
namespace Go.Pe
open Go Go.Am Go.RowKit

theorem Nej {Gl : Gmap} {m : Int} (hg : Gl 0 0 = some (.int .i64 m)) : CfgOK Go.Proofs.Tryd.prog Gl cfgW := by
 refine NdW Nd9 ?_
 intro f g h
 unfold Njv at h
 split at h
 ·rename_i e; simp only [Sj] at h; subst h; subst e
  exact Nd0 hg fun s sub m w hs hm => Go.Proofs.Tryd.strings_Contains s sub m w hs hm
 ·split at h
  ·rename_i e; simp only [Sj] at h; subst h; subst e
   exact NfO fun s c w => Go.Proofs.Tryd.strings_Count_one s c w
  ·split at h
   ·rename_i e; simp only [Sj] at h; subst h; subst e
    exact NdL fun s c w => Go.Proofs.Tryd.strings_IndexByte s c w
   ·simp at h
def Ng7 : FuncId → Option (List PV → Option PV) := fun f => if f = 45 then some gNext else none
theorem NfX {Gl : Gmap} {m : Int} (hg : Gl 0 0 = some (.int .i64 m)) : ∀ f g, Ng7 f = some g → Na6 Go.Proofs.Tryd.prog Gl f g := by
 intro f g h
 unfold Ng7 at h
 split at h
 ·rename_i e; simp only [Sj] at h; subst h; subst e
  exact Ndz (Nej hg)
 ·cases h
noncomputable def cfgNx : Cfg := { fn := fun f => Ncp f tblL, ext := Ng7 }
theorem Ngj {Gl : Gmap} {m : Int} (hg : Gl 0 0 = some (.int .i64 m)) : CfgOK Go.Proofs.Tryd.prog Gl cfgNx := NdW Nd9 (NfX hg)
theorem Nea {w : World} (h : w.ShapedOpen Go.Proofs.Tryd.prog) : ∃ m, w.cell? ⟨0, 0, none⟩ = some (.int .i64 m) := Go.Proofs.Tryd.laysM144.s1_3 w h
end Go.Pe
