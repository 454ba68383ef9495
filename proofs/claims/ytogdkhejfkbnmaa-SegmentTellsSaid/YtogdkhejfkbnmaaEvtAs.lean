/-
 What the laws of events share. No condition.
-/
import Derived.Test.YtogdkhejfkbnmaaEvtM
import Derived.Test.YtogdkhejfkbnmaaCrcN
import Derived.Test.YtogdkhejfkbnmaaEvtI
import Derived.Test.YtogdkhejfkbnmaaEvtAr
set_option linter.unusedVariables false
set_option linter.unusedSimpArgs false
namespace Go.Pe
open Go Go.Am Go.RowKit

theorem Nfs : ∀ (f n k : Nat), k < (varF f n).length → ∀ c ∈ (varF f n).take k, 128 ≤ c.toNat := by
 intro f
 induction f with
 | zero =>
   intro n k hk c hc
   unfold varF at hk hc
   simp only [List.length_singleton] at hk
   have : k = 0 := by omega
   subst this
   simp at hc
 | succ f ih =>
   intro n k hk c hc
   unfold varF at hk hc
   split at hk
   ·rename_i h
    rw [if_pos h] at hc
    simp only [List.length_singleton] at hk
    have : k = 0 := by omega
    subst this
    simp at hc
   ·rename_i h
    rw [if_neg h] at hc
    cases k with
    | zero => simp at hc
    | succ k =>
      simp only [List.length_cons] at hk
      rw [List.take_succ_cons] at hc
      rcases List.mem_cons.1 hc with rfl | hc
      ·rw [UInt8.toNat_ofNat']; omega
      ·exact ih _ k (by omega) c hc
end Go.Pe
namespace Go.Pe
open Go Go.Am Go.RowKit

theorem NrO (x e : Ev) : 5 ≤ (pt x e).length := by
 have h1 := NdN x.T e.T
 have h2 := NdN x.J e.J
 have h3 := NdN x.A e.A
 have h4 := NdN x.B e.B
 unfold pt
 simp only [List.length_cons, List.length_append]
 omega
end Go.Pe
namespace Go.Pe
open Go Go.Am Go.RowKit

theorem Nm3 {xs : List UInt8} {a : Int} : (Nax xs a).2.2 = 0 ∨ (Nax xs a).2.2 = 2 ∨ (Nax xs a).2.2 = 10 ∨ (Nax xs a).2.2 = 11 := by
 unfold Nax
 repeat' split
 all_goals simp
theorem Nhm {b : List UInt8} {at0 e : Int} (h : Nfx b at0 = .inr e) : e ≠ 0 := by
 have hu := @Nm3 b at0
 unfold Nfx at h
 simp only at h
 split at h
 ·rename_i hz
  simp only [Sum.inr.injEq] at h
  rw [← h]; exact hz
 split at h
 ·simp only [Sum.inr.injEq] at h
  omega
 split at h
 ·simp only [Sum.inr.injEq] at h
  omega
 split at h
 ·split at h
  ·simp at h
  ·simp only [Sum.inr.injEq] at h
   omega
 ·simp only [Sum.inr.injEq] at h
  omega
end Go.Pe
