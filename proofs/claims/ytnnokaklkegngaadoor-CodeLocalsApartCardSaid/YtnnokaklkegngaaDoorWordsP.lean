/-
 Words: the token at a place, by value. No condition.
-/
import Derived.Test.YtnnokaklkegngaaDoorWordsZ
set_option linter.unusedVariables false
set_option linter.unusedSimpArgs false
namespace Go.Pe
open Go Go.Am Go.RowKit

theorem Ndr (st : St) (k : Int) (s : List UInt8) (n l a e : Int) : NaO st (Nc0 k s n l a e) = some (Nc0 k s n l a e) := rfl
theorem NbL (st : St) (e l : Int) : NaO st (Nbd e l) = some (Nbd e l) := rfl
theorem Nds (st : St) (text : List UInt8) (at0 : Nat) : NaO st (NcQ text at0) = some (NcQ text at0) := by
 unfold NcQ
 simp only []
 repeat' split
 all_goals first | exact Ndr _ _ _ _ _ _ _ | exact NbL _ _ _
theorem Nii {M : Nat} {text : List UInt8} {at0 : Nat} (hM : text.length < M) (hlen : text.length ≤ 16384) (hat : at0 ≤ text.length) :
 evP cfgW (M + 60 + 1) 45 [.s text, .i .i64 at0] = some (NcQ text at0) := by
 obtain ⟨r, st', h1, h2⟩ := NhA hM hlen hat
 have hx : cfgW.ext 45 = none := by kernel_rfl
 unfold evP Nam
 simp only [hx]
 unfold Ned
 have h1' : NaT cfgW (M + 60 + 1) 45 (Naq [.s text, .i .i64 at0]).1 (Naq [.s text, .i .i64 at0]).2 = some (r, st') := h1
 rw [h1', h2]
 exact Nds st' text at0
end Go.Pe
