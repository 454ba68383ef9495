/-
  What the laws of events share. No condition.
-/
import Derived.Test.YtogdkhejfkbnmaaEvtI
import Derived.Test.YtogdkhejfkbnmaaEvtW
import Derived.Test.YtogdkhejfkbnmaaEvtAr
set_option linter.unusedVariables false
set_option linter.unusedSimpArgs false
namespace Go.Pe
open Go Go.Am Go.RowKit

theorem getU_err {xs : List UInt8} {a : Int} : (getU xs a).2.2 = 0 ∨ (getU xs a).2.2 = 2 ∨ (getU xs a).2.2 = 10 ∨ (getU xs a).2.2 = 11 := by
  unfold getU
  repeat' split
  all_goals simp
theorem readL_err {b : List UInt8} {at0 e : Int} (h : readL b at0 = .inr e) : e ≠ 0 := by
  have hu := @getU_err b at0
  unfold readL at h
  simp only at h
  split at h
  · rename_i hz
    simp only [Sum.inr.injEq] at h
    rw [← h]; exact hz
  split at h
  · simp only [Sum.inr.injEq] at h
    omega
  split at h
  · simp only [Sum.inr.injEq] at h
    omega
  split at h
  · split at h
    · simp at h
    · simp only [Sum.inr.injEq] at h
      omega
  · simp only [Sum.inr.injEq] at h
    omega
theorem pts_len (l : List Ev) : ∀ X, (pts X l).length ≤ 41 * l.length := by
  intro X
  have h1 := putsL_len l [] X
  rw [putsL_pts] at h1
  simpa using h1
theorem turned_ne {l : List Ev} {p : Nat} {u : UInt8} (hp : p < (frameL l).length) (hu : u ≠ 0) {y : List Ev} {m : Int} (h : readL ((frameL l).set p ((frameL l).getD p 0 ^^^ u)) (Int.ofNat 0) = .inl (y, m)) : y ≠ l := by
  intro e
  subst e
  obtain ⟨a, rest, ha, _, _, _, _, hd, _⟩ := readL_inv h
  have ha0 : a = 0 := by simp at ha; omega
  subst ha0
  rw [List.drop_zero] at hd
  have hl := congrArg List.length hd
  rw [List.length_append, List.length_set] at hl
  have hr : rest = [] := List.length_eq_zero_iff.1 (by omega)
  rw [hr, List.append_nil] at hd
  have hg := congrArg (fun s : List UInt8 => s.getD p 0) hd
  simp only [set_getD hp] at hg
  apply hu
  have h2 : (frameL y).getD p 0 ^^^ ((frameL y).getD p 0 ^^^ u) = (frameL y).getD p 0 ^^^ (frameL y).getD p 0 := by rw [hg]
  rw [← UInt8.xor_assoc, UInt8.xor_self, UInt8.zero_xor] at h2
  exact h2
end Go.Pe
