/-
  Words: the token at a place, by value. No condition.
-/
import Derived.Test.YtjnofhibldppoaaWordsZ
set_option linter.unusedVariables false
set_option linter.unusedSimpArgs false
namespace Go.Pe
open Go Go.Am Go.RowKit

theorem closeRes_word (st : St) (k : Int) (s : List UInt8) (n l a e : Int) : closeRes st (wordR k s n l a e) = some (wordR k s n l a e) := rfl
theorem closeRes_fault (st : St) (e l : Int) : closeRes st (faultR e l) = some (faultR e l) := rfl
theorem closeRes_next (st : St) (text : List UInt8) (at0 : Nat) : closeRes st (nextR text at0) = some (nextR text at0) := by
  unfold nextR
  simp only []
  repeat' split
  all_goals first | exact closeRes_word _ _ _ _ _ _ _ | exact closeRes_fault _ _ _
theorem next_P {M : Nat} {text : List UInt8} {at0 : Nat} (hM : text.length < M) (hlen : text.length ≤ 16384) (hat : at0 ≤ text.length) :
    evP cfgW (M + 60 + 1) 64 [.s text, .i .i64 at0] = some (nextR text at0) := by
  obtain ⟨r, st', h1, h2⟩ := next_W hM hlen hat
  have hx : cfgW.ext 64 = none := by kernel_rfl
  unfold evP runPure
  simp only [hx]
  unfold callP
  have h1' : evFn cfgW (M + 60 + 1) 64 (openArgs [.s text, .i .i64 at0]).1 (openArgs [.s text, .i .i64 at0]).2 = some (r, st') := h1
  rw [h1', h2]
  exact closeRes_next st' text at0
end Go.Pe
