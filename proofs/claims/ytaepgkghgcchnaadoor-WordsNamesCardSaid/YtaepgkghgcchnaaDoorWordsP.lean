/-
 Words: the token at a place, by value. No condition.
-/
import Derived.Test.YtaepgkghgcchnaaDoorWordsZ
set_option linter.unusedVariables false
set_option linter.unusedSimpArgs false
namespace Go.Pe
open Go Go.Am Go.RowKit

theorem NdB (st : St) (k : Int) (s : List UInt8) (n l a e : Int) : NaZ st (NbO k s n l a e) = some (NbO k s n l a e) := rfl
theorem NbQ (st : St) (e l : Int) : NaZ st (Na4 e l) = some (Na4 e l) := rfl
theorem NdA (st : St) (text : List UInt8) (at0 : Nat) : NaZ st (Nb1 text at0) = some (Nb1 text at0) := by
 unfold Nb1
 simp only []
 repeat' split
 all_goals first | exact NdB _ _ _ _ _ _ _ | exact NbQ _ _ _
theorem Njs {M : Nat} {text : List UInt8} {at0 : Nat} (hM : text.length < M) (hlen : text.length ≤ 16384) (hat : at0 ≤ text.length) :
 evP cfgW (M + 60 + 1) 9 [.s text, .i .i64 at0] = some (Nb1 text at0) := by
 obtain ⟨r, st', h1, h2⟩ := Njt hM hlen hat
 have hx : cfgW.ext 9 = none := by kernel_rfl
 unfold evP Nao
 simp only [hx]
 unfold Nem
 have h1' : Na2 cfgW (M + 60 + 1) 9 (Naz [.s text, .i .i64 at0]).1 (Naz [.s text, .i .i64 at0]).2 = some (r, st') := h1
 rw [h1', h2]
 exact NdA st' text at0
end Go.Pe
