/-
 Words: the token at a place, by value. No condition.
-/
import Derived.Test.YtdodmlebinomjaaDoorWordsZ
set_option linter.unusedVariables false
set_option linter.unusedSimpArgs false
namespace Go.Pe
open Go Go.Am Go.RowKit

theorem Ndd (st : St) (k : Int) (s : List UInt8) (n l a e : Int) : NaP st (NcQ k s n l a e) = some (NcQ k s n l a e) := rfl
theorem Nbz (st : St) (e l : Int) : NaP st (Na9 e l) = some (Na9 e l) := rfl
theorem Ndc (st : St) (text : List UInt8) (at0 : Nat) : NaP st (NcI text at0) = some (NcI text at0) := by
 unfold NcI
 simp only []
 repeat' split
 all_goals first | exact Ndd _ _ _ _ _ _ _ | exact Nbz _ _ _
theorem Nif {M : Nat} {text : List UInt8} {at0 : Nat} (hM : text.length < M) (hlen : text.length ≤ 16384) (hat : at0 ≤ text.length) :
 evP cfgW (M + 60 + 1) 40 [.s text, .i .i64 at0] = some (NcI text at0) := by
 obtain ⟨r, st', h1, h2⟩ := Nig hM hlen hat
 have hx : cfgW.ext 40 = none := by kernel_rfl
 unfold evP Nay
 simp only [hx]
 unfold NdR
 have h1' : Nbj cfgW (M + 60 + 1) 40 (Nao [.s text, .i .i64 at0]).1 (Nao [.s text, .i .i64 at0]).2 = some (r, st') := h1
 rw [h1', h2]
 exact Ndc st' text at0
end Go.Pe
