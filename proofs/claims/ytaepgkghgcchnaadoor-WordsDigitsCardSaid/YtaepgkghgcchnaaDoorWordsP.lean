/-
 Words: the token at a place, by value. No condition.
-/
import Derived.Test.YtaepgkghgcchnaaDoorWordsZ
set_option linter.unusedVariables false
set_option linter.unusedSimpArgs false
namespace Go.Pe
open Go Go.Am Go.RowKit

theorem Ndy (st : St) (k : Int) (s : List UInt8) (n l a e : Int) : Na0 st (Nch k s n l a e) = some (Nch k s n l a e) := rfl
theorem NbP (st : St) (e l : Int) : Na0 st (NaV e l) = some (NaV e l) := rfl
theorem Ndx (st : St) (text : List UInt8) (at0 : Nat) : Na0 st (NbW text at0) = some (NbW text at0) := by
 unfold NbW
 simp only []
 repeat' split
 all_goals first | exact Ndy _ _ _ _ _ _ _ | exact NbP _ _ _
theorem Njf {M : Nat} {text : List UInt8} {at0 : Nat} (hM : text.length < M) (hlen : text.length ≤ 16384) (hat : at0 ≤ text.length) :
 evP cfgW (M + 60 + 1) 9 [.s text, .i .i64 at0] = some (NbW text at0) := by
 obtain ⟨r, st', h1, h2⟩ := Njg hM hlen hat
 have hx : cfgW.ext 9 = none := by kernel_rfl
 unfold evP Nau
 simp only [hx]
 unfold NdR
 have h1' : Na5 cfgW (M + 60 + 1) 9 (Naw [.s text, .i .i64 at0]).1 (Naw [.s text, .i .i64 at0]).2 = some (r, st') := h1
 rw [h1', h2]
 exact Ndx st' text at0
end Go.Pe
