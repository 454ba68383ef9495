/-
 Words: the token at a place, by value. No condition.
-/
import Derived.Test.YtdodmlebinomjaaDoorWordsZ
set_option linter.unusedVariables false
set_option linter.unusedSimpArgs false
namespace Go.Pe
open Go Go.Am Go.RowKit

theorem Ndj (st : St) (k : Int) (s : List UInt8) (n l a e : Int) : NaU st (NcV k s n l a e) = some (NcV k s n l a e) := rfl
theorem NbF (st : St) (e l : Int) : NaU st (Nbg e l) = some (Nbg e l) := rfl
theorem Ndi (st : St) (text : List UInt8) (at0 : Nat) : NaU st (NcM text at0) = some (NcM text at0) := by
 unfold NcM
 simp only []
 repeat' split
 all_goals first | exact Ndj _ _ _ _ _ _ _ | exact NbF _ _ _
theorem Nqu {M : Nat} {text : List UInt8} {at0 : Nat} (hM : text.length < M) (hlen : text.length ≤ 16384) (hat : at0 ≤ text.length) :
 evP cfgW (M + 60 + 1) 40 [.s text, .i .i64 at0] = some (NcM text at0) := by
 obtain ⟨r, st', h1, h2⟩ := Nqv hM hlen hat
 have hx : cfgW.ext 40 = none := by kernel_rfl
 unfold evP Naq
 simp only [hx]
 unfold Nd1
 have h1' : Nba cfgW (M + 60 + 1) 40 (Nas [.s text, .i .i64 at0]).1 (Nas [.s text, .i .i64 at0]).2 = some (r, st') := h1
 rw [h1', h2]
 exact Ndi st' text at0
end Go.Pe
