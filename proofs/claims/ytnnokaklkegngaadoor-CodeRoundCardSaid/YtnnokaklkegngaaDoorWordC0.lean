/-
 Words: the token at a place, told by contract, at the seat. No condition.
-/
import Derived.Test.YtnnokaklkegngaaDoorWordsQ
import Derived.Test.YtnnokaklkegngaaDoorShelf
set_option linter.unusedVariables false
namespace Go.Pe
open Go Go.Am Go.RowKit

theorem Neg {Gl : Gmap} {m : Int} (hg : Gl 0 0 = some (.int .i64 m)) : CfgOK Go.Proofs.Tryd.prog Gl cfgW := by
 refine NdV Nd8 ?_
 intro f g h
 unfold Nkf at h
 split at h
 ·rename_i e; simp only [Sj] at h; subst h; subst e
  exact Nd0 hg fun s sub m w hs hm => Go.Proofs.Tryd.strings_Contains s sub m w hs hm
 ·split at h
  ·rename_i e; simp only [Sj] at h; subst h; subst e
   exact NfR fun s c w => Go.Proofs.Tryd.strings_Count_one s c w
  ·split at h
   ·rename_i e; simp only [Sj] at h; subst h; subst e
    exact NdS fun s c w => Go.Proofs.Tryd.strings_IndexByte s c w
   ·simp at h
def Nhh : FuncId → Option (List PV → Option PV) := fun f => if f = 45 then some gNext else none
theorem Nga {Gl : Gmap} {m : Int} (hg : Gl 0 0 = some (.int .i64 m)) : ∀ f g, Nhh f = some g → Na3 Go.Proofs.Tryd.prog Gl f g := by
 intro f g h
 unfold Nhh at h
 split at h
 ·rename_i e; simp only [Sj] at h; subst h; subst e
  exact Ndz (Neg hg)
 ·cases h
noncomputable def cfgNx : Cfg := { fn := fun f => Nb8 f tblL, ext := Nhh }
theorem Nes {Gl : Gmap} {m : Int} (hg : Gl 0 0 = some (.int .i64 m)) : CfgOK Go.Proofs.Tryd.prog Gl cfgNx := NdV Nd8 (Nga hg)
theorem Nee {w : World} (h : w.ShapedOpen Go.Proofs.Tryd.prog) : ∃ m, w.cell? ⟨0, 0, none⟩ = some (.int .i64 m) := Go.Proofs.Tryd.laysM144.s1_3 w h
end Go.Pe
