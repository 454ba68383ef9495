/-
 Words: the token at a place, by value. No condition.
-/
import Derived.Test.YtjnofhibldppoaaWordsZ
set_option linter.unusedVariables false
set_option linter.unusedSimpArgs false
namespace Go.Pe
open Go Go.Am Go.RowKit

theorem NdE (st : St) (k : Int) (s : List UInt8) (n l a e : Int) : NaY st (NcS k s n l a e) = some (NcS k s n l a e) := rfl
theorem NbY (st : St) (e l : Int) : NaY st (Nbm e l) = some (Nbm e l) := rfl
theorem NdJ (st : St) (text : List UInt8) (at0 : Nat) : NaY st (NcH text at0) = some (NcH text at0) := by
 unfold NcH
 simp only []
 repeat' split
 all_goals first | exact NdE _ _ _ _ _ _ _ | exact NbY _ _ _
theorem Njr {M : Nat} {text : List UInt8} {at0 : Nat} (hM : text.length < M) (hlen : text.length ≤ 16384) (hat : at0 ≤ text.length) :
 evP cfgW (M + 60 + 1) 64 [.s text, .i .i64 at0] = some (NcH text at0) := by
 obtain ⟨r, st', h1, h2⟩ := Nj0 hM hlen hat
 have hx : cfgW.ext 64 = none := by kernel_rfl
 unfold evP Nam
 simp only [hx]
 unfold NeK
 have h1' : Nas cfgW (M + 60 + 1) 64 (Nav [.s text, .i .i64 at0]).1 (Nav [.s text, .i .i64 at0]).2 = some (r, st') := h1
 rw [h1', h2]
 exact NdJ st' text at0
end Go.Pe
