/-
  BytesTells: the law of arguments as they are drawn. No condition.
-/
import Derived.Test.YtmjoneiagfegdaaBytC
import Derived.Test.YtmjoneiagfegdaaView
set_option linter.unusedVariables false
set_option linter.unusedSimpArgs false
namespace Go.Pe
open Go Go.Am Go.RowKit
theorem u8_wfB {x : Int} (h : (Lit.int .u8 x).wf = true) : 0 ≤ x ∧ x < 256 := by
  simp [Lit.wf, IntKind.min, IntKind.max, IntKind.signed, IntKind.bits] at h
  omega
theorem i64_wfB {x : Int} (h : (Lit.int .i64 x).wf = true) : in64 x := by
  simp [Lit.wf, IntKind.min, IntKind.max, IntKind.signed, IntKind.bits] at h
  unfold in64
  omega
theorem u64_wfB {x : Int} (h : (Lit.int .u64 x).wf = true) : 0 ≤ x ∧ x < 18446744073709551616 := by
  simp [Lit.wf, IntKind.min, IntKind.max, IntKind.signed, IntKind.bits] at h
  omega
theorem is_bytesB : ∀ {n : Nat} {ps : List PV}, ps.length = n * 1 → (∀ j, j < n → (Sh.i .u8).Is ((ps.drop (j * 1)).take 1)) → ∃ l : List UInt8, ps = ofBytes l ∧ l.length = n
  | 0, ps, hl, _ => ⟨[], by have : ps = [] := List.length_eq_zero_iff.1 (by omega); rw [this]; rfl, rfl⟩
  | n + 1, ps, hl, h => by
    obtain ⟨x, h1, h2⟩ := h 0 (by omega)
    obtain ⟨l, q1, q2⟩ := is_bytesB (n := n) (ps := ps.drop 1) (by rw [List.length_drop]; omega) (fun j hj => by
      have := h (j + 1) (by omega)
      rw [List.drop_drop, show 1 + j * 1 = (j + 1) * 1 by omega]
      exact this)
    have hu := u8_wfB h2
    refine ⟨UInt8.ofNat x.toNat :: l, ?_, by simp [q2]⟩
    have h3 : (((UInt8.ofNat x.toNat).toNat : Nat) : Int) = x := by
      rw [UInt8.toNat_ofNat']; omega
    show ps = .i .u8 ((UInt8.ofNat x.toNat).toNat : Int) :: ofBytes l
    rw [h3, ← q1]
    have : ps = ps.take 1 ++ ps.drop 1 := (List.take_append_drop 1 ps).symm
    rw [Nat.zero_mul, List.drop_zero] at h1
    rw [this, h1]
    rfl
theorem btells_law (x : Int) (hx : (Lit.int .u64 x).wf = true) (n2 : Nat) (ps2 : List PV) (hl2 : ps2.length = n2 * (Sh.i .u8).width) (hn2 : n2 ≤ reachBytes) (hh : ∀ j, j < n2 → (Sh.i .u8).Is ((ps2.drop (j * (Sh.i .u8).width)).take (Sh.i .u8).width)) (a : Int) (ha : (Lit.int .i64 a).wf = true) (m : Int) (hm : (Lit.int .i64 m).wf = true) : ∃ fuel, evP cfgL8 fuel 8 [.i .u64 x, .fsl n2 ps2, .i .i64 a, .i .i64 m] = some (.b true) := by
  obtain ⟨b, rfl, rfl⟩ := is_bytesB hl2 hh
  have hu := u64_wfB hx
  obtain ⟨n, rfl⟩ : ∃ n : Nat, x = (n : Int) := ⟨x.toNat, by omega⟩
  exact btells_ev (by omega) (i64_wfB ha) (i64_wfB hm)
end Go.Pe
