/-
 Words: the token at a place, by value. No condition.
-/
import Derived.Test.YtnnokaklkegngaaDoorWordsZ
set_option linter.unusedVariables false
set_option linter.unusedSimpArgs false
namespace Go.Pe
open Go Go.Am Go.RowKit

theorem Ndo (st : St) (k : Int) (s : List UInt8) (n l a e : Int) : NaR st (NcY k s n l a e) = some (NcY k s n l a e) := rfl
theorem NbH (st : St) (e l : Int) : NaR st (Nbf e l) = some (Nbf e l) := rfl
theorem Ndn (st : St) (text : List UInt8) (at0 : Nat) : NaR st (NcK text at0) = some (NcK text at0) := by
 unfold NcK
 simp only []
 repeat' split
 all_goals first | exact Ndo _ _ _ _ _ _ _ | exact NbH _ _ _
theorem NhO {M : Nat} {text : List UInt8} {at0 : Nat} (hM : text.length < M) (hlen : text.length ≤ 16384) (hat : at0 ≤ text.length) :
 evP cfgW (M + 60 + 1) 45 [.s text, .i .i64 at0] = some (NcK text at0) := by
 obtain ⟨r, st', h1, h2⟩ := Nid hM hlen hat
 have hx : cfgW.ext 45 = none := by kernel_rfl
 unfold evP Nas
 simp only [hx]
 unfold Neb
 have h1' : Na5 cfgW (M + 60 + 1) 45 (Naq [.s text, .i .i64 at0]).1 (Naq [.s text, .i .i64 at0]).2 = some (r, st') := h1
 rw [h1', h2]
 exact Ndn st' text at0
end Go.Pe
