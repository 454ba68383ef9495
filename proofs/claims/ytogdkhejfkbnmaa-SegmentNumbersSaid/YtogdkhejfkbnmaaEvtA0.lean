/-
  Events: bytes apart: plain mathematics. No condition.
-/
import Derived.Test.YtogdkhejfkbnmaaEvtS2
import Derived.Test.YtogdkhejfkbnmaaEvtG
set_option linter.unusedVariables false
set_option linter.unusedSimpArgs false
namespace Go.Pe
open Go Go.Am Go.RowKit

theorem var_inj {a b : Nat} (ha : a < 18446744073709551616) (hb : b < 18446744073709551616) {r s : List UInt8} (h : varint a ++ r = varint b ++ s) : a = b ∧ r = s := by
  have h1 := parse_varint ha r
  rw [h, parse_varint hb s] at h1
  have e : a = b := (Prod.mk.inj h1).1.symm
  subst e
  exact ⟨rfl, List.append_cancel_left h⟩
theorem wrap_in (x : Int) : in64 (IntKind.i64.wrap x) := by
  unfold in64
  rw [IntKind.wrap_i64]
  omega
theorem dInt_inj {a b b' : Int} (hb : in64 b) (hb' : in64 b') {r s : List UInt8} (h : dInt a b ++ r = dInt a b' ++ s) : b = b' ∧ r = s := by
  unfold dInt at h
  obtain ⟨h1, h2⟩ := var_inj (foldN_lt (wrap_in _)) (foldN_lt (wrap_in _)) h
  refine ⟨?_, h2⟩
  have h3 := congrArg openI h1
  rw [openI_foldN, openI_foldN] at h3
  unfold in64 at hb hb'
  simp only [IntKind.wrap_i64] at h3
  omega
theorem put_inj {c c' : UInt8} {a0 a2 a3 a4 b0 b2 b3 b4 f0 f2 f3 f4 : Int} (h0 : in64 b0) (h2 : in64 b2) (h3 : in64 b3) (h4 : in64 b4) (g0 : in64 f0) (g2 : in64 f2) (g3 : in64 f3) (g4 : in64 f4) {r s : List UInt8}
    (h : putL [] c a0 a2 a3 a4 b0 b2 b3 b4 ++ r = putL [] c' a0 a2 a3 a4 f0 f2 f3 f4 ++ s) : c = c' ∧ b0 = f0 ∧ b2 = f2 ∧ b3 = f3 ∧ b4 = f4 := by
  have e : ∀ (x : UInt8) (p q r' t u : List UInt8), ([] ++ [x] ++ p ++ q ++ r' ++ t) ++ u = x :: (p ++ (q ++ (r' ++ (t ++ u)))) := by intro x p q r' t u; simp
  unfold putL at h
  rw [e, e] at h
  obtain ⟨hc, h⟩ := List.cons.inj h
  have i0 := dInt_inj h0 g0 h
  have i2 := dInt_inj h2 g2 i0.2
  have i3 := dInt_inj h3 g3 i2.2
  have i4 := dInt_inj h4 g4 i3.2
  exact ⟨hc, i0.1, i2.1, i3.1, i4.1⟩
theorem put_len (c : UInt8) (a0 a2 a3 a4 b0 b2 b3 b4 : Int) : 5 ≤ (putL [] c a0 a2 a3 a4 b0 b2 b3 b4).length ∧ (putL [] c a0 a2 a3 a4 b0 b2 b3 b4).length ≤ 41 := by
  have h1 := dInt_len a0 b0
  have h2 := dInt_len a2 b2
  have h3 := dInt_len a3 b3
  have h4 := dInt_len a4 b4
  unfold putL
  simp only [List.length_append, List.length_nil, List.length_singleton]
  omega
theorem put_self (c : UInt8) (b0 b2 b3 b4 : Int) : (putL [] c b0 b2 b3 b4 b0 b2 b3 b4).length = 5 := by
  have e : ∀ b, dInt b b = [0] := by
    intro b
    unfold dInt
    rw [Int.sub_self]
    rfl
  unfold putL
  simp only [e]
  rfl
theorem put_take {c c' : UInt8} {a0 a2 a3 a4 b0 b2 b3 b4 f0 f2 f3 f4 : Int} (h0 : in64 b0) (h2 : in64 b2) (h3 : in64 b3) (h4 : in64 b4) (g0 : in64 f0) (g2 : in64 f2) (g3 : in64 f3) (g4 : in64 f4) {L M : List UInt8} (hL : putL [] c a0 a2 a3 a4 b0 b2 b3 b4 = L) (hM : putL [] c' a0 a2 a3 a4 f0 f2 f3 f4 = M) :
    (L.take (min L.length M.length) == M.take (min L.length M.length)) = ((b0 == f0) && (c == c') && (b2 == f2) && (b3 == f3) && (b4 == f4)) := by
  rw [Bool.eq_iff_iff]
  simp only [Bool.and_eq_true, beq_iff_eq]
  constructor
  · intro h
    have key : c = c' ∧ b0 = f0 ∧ b2 = f2 ∧ b3 = f3 ∧ b4 = f4 := by
      by_cases hl : L.length ≤ M.length
      · rw [Nat.min_eq_left hl, List.take_length] at h
        have e : L ++ M.drop L.length = M ++ [] := by
          rw [List.append_nil]
          conv => lhs; arg 1; rw [h]
          exact List.take_append_drop _ _
        refine put_inj (a0 := a0) (a2 := a2) (a3 := a3) (a4 := a4) h0 h2 h3 h4 g0 g2 g3 g4 (r := M.drop L.length) (s := []) ?_
        rw [hL, hM]
        exact e
      · rw [Nat.min_eq_right (by omega), List.take_length] at h
        refine put_inj (a0 := a0) (a2 := a2) (a3 := a3) (a4 := a4) h0 h2 h3 h4 g0 g2 g3 g4 (r := []) (s := L.drop M.length) ?_
        rw [hL, hM, List.append_nil]
        have e := List.take_append_drop M.length L
        rw [h] at e
        exact e.symm
    exact ⟨⟨⟨⟨key.2.1, key.1⟩, key.2.2.1⟩, key.2.2.2.1⟩, key.2.2.2.2⟩
  · rintro ⟨⟨⟨⟨rfl, rfl⟩, rfl⟩, rfl⟩, rfl⟩
    rw [← hL, ← hM]
theorem deep_two' {st : St} {k1 k2 n m : Nat} {a b : List UInt8} (h1 : st.get k1 = some (.cells (ofBytes a) false)) (h2 : st.get k2 = some (.cells (ofBytes b) false)) (hn : n ≤ a.length) (hm : m ≤ b.length) : deepL st [.rsl k1 1 0 n, .rsl k2 1 0 m] = some [.fsl n (ofBytes (a.take n)), .fsl m (ofBytes (b.take m))] := by
  unfold deepL
  simp only [mapO, deep_bytes h1 (show 0 + n ≤ a.length by omega), deep_bytes h2 (show 0 + m ≤ b.length by omega), List.drop_zero]
theorem eq5_bool (x0 x1 x2 x3 x4 : Bool) : eqC (some x0) (eqC (some x1) (eqC (some x2) (eqC (some x3) (eqC (some x4) (some true))))) = some (x0 && x1 && x2 && x3 && x4) := by
  cases x0 <;> cases x1 <;> cases x2 <;> cases x3 <;> cases x4 <;> rfl
theorem u8_beq {x y : Int} (hx : 0 ≤ x ∧ x < 256) (hy : 0 ≤ y ∧ y < 256) : (x == y) = (x.toNat.toUInt8 == y.toNat.toUInt8) := by
  rw [Bool.eq_iff_iff]
  simp only [beq_iff_eq]
  constructor
  · intro h; rw [h]
  · intro h
    have := congrArg UInt8.toNat h
    simp only [Nat.toUInt8, UInt8.toNat_ofNat'] at this
    omega
theorem u8_wf {x : Int} (h : (Lit.int .u8 x).wf = true) : 0 ≤ x ∧ x < 256 := by
  simp [Lit.wf, IntKind.min, IntKind.max, IntKind.signed, IntKind.bits] at h
  omega
theorem i64_wf {x : Int} (h : (Lit.int .i64 x).wf = true) : in64 x := by
  simp [Lit.wf, IntKind.min, IntKind.max, IntKind.signed, IntKind.bits] at h
  unfold in64
  omega
end Go.Pe
