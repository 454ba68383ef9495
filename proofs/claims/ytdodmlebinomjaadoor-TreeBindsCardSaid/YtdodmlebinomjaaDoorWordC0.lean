/-
 Words: the token at a place, told by contract, at the seat. No condition.
-/
import Derived.Test.YtdodmlebinomjaaDoorWordsQ
import Derived.Test.YtdodmlebinomjaaDoorShelf
set_option linter.unusedVariables false
namespace Go.Pe
open Go Go.Am Go.RowKit

theorem Nej {Gl : Gmap} {m : Int} (hg : Gl 1 0 = some (.int .i64 m)) : CfgOK Go.Proofs.Tryd.prog Gl cfgW := by
 refine NdT Nef ?_
 intro f g h
 unfold Nku at h
 split at h
 ·rename_i e; simp only [Sj] at h; subst h; subst e
  exact NdX hg fun s sub m w hs hm => Go.Proofs.Tryd.strings_Contains s sub m w hs hm
 ·split at h
  ·rename_i e; simp only [Sj] at h; subst h; subst e
   exact NfS fun s c w => Go.Proofs.Tryd.strings_Count_one s c w
  ·split at h
   ·rename_i e; simp only [Sj] at h; subst h; subst e
    exact Ndy fun s c w => Go.Proofs.Tryd.strings_IndexByte s c w
   ·simp at h
def NgX : FuncId → Option (List PV → Option PV) := fun f => if f = 40 then some gNext else none
theorem NfV {Gl : Gmap} {m : Int} (hg : Gl 1 0 = some (.int .i64 m)) : ∀ f g, NgX f = some g → NaX Go.Proofs.Tryd.prog Gl f g := by
 intro f g h
 unfold NgX at h
 split at h
 ·rename_i e; simp only [Sj] at h; subst h; subst e
  exact NdC (Nej hg)
 ·cases h
noncomputable def cfgNx : Cfg := { fn := fun f => Nd5 f tblL, ext := NgX }
theorem NfP {Gl : Gmap} {m : Int} (hg : Gl 1 0 = some (.int .i64 m)) : CfgOK Go.Proofs.Tryd.prog Gl cfgNx := NdT Nef (NfV hg)
theorem Nd6 {w : World} (h : w.ShapedOpen Go.Proofs.Tryd.prog) : ∃ m, w.cell? ⟨1, 0, none⟩ = some (.int .i64 m) := Go.Proofs.Tryd.laysM144.s1_3 w h
end Go.Pe
