/-
  Library functions whose contracts the shelf holds, as functions of plain data. No condition; nothing of the program.
-/
import Derived.Test.YtaepgkghgcchnaaPeTop
import Derived.Lib.Bytealg
import Derived.Lib.IndexMore
set_option linter.unusedVariables false
set_option linter.unusedSimpArgs false
namespace Go.Pe
open Go Go.Am Go.RowKit

theorem posS_eq (c : UInt8) : ∀ (l : List UInt8) (n : Nat), posS c l n = if Lib.indexByte l c = -1 then -1 else Lib.indexByte l c + n
  | [], n => by simp [posS, Lib.indexByte]
  | b :: l, n => by
    have h := Lib.indexByte_ge l c
    unfold posS Lib.indexByte
    by_cases hb : b = c
    · simp [hb]
    · rw [posS_eq c l (n + 1)]
      by_cases h1 : Lib.indexByte l c = -1
      · simp [hb, h1]
      · have h2 : ¬ (Lib.indexByte l c + 1 = -1) := by omega
        simp [hb, h1, h2]
        omega
theorem cntS_eq (c : UInt8) : ∀ (l : List UInt8) (n : Nat), cntS c l n = l.count c + n
  | [], n => by simp [cntS]
  | b :: l, n => by
    unfold cntS
    rw [cntS_eq c l]
    by_cases hb : b = c
    · simp [hb]; omega
    · simp [hb, List.count_cons]
theorem hasS_eq (sub : List UInt8) : ∀ (l : List UInt8), hasS sub l = Lib.contains l sub
  | [] => by
    unfold hasS Lib.contains Lib.index
    cases sub <;> simp
  | b :: l => by
    have h := Lib.index_ge l sub
    unfold hasS
    rw [hasS_eq sub l]
    unfold Lib.contains
    rw [Lib.index]
    by_cases hb : sub.isPrefixOf (b :: l) = true
    · simp [hb]
    · by_cases h1 : Lib.index l sub = -1
      · simp [hb, h1]
      · simp [hb, h1]
        omega
theorem FC.two {F : Nat → Nat → Option Value} {vs : List Value} {p q : PV} (h : FC F vs [p, q]) : ∃ u v, vs = [u, v] ∧ FRel F u p ∧ FRel F v q := by
  match vs, h with
  | [u, v], h => exact ⟨u, v, rfl, h.2 0 u p rfl rfl, h.2 1 v q rfl rfl⟩
  | [], h => have := h.1; simp at this
  | [_], h => have := h.1; simp at this
  | _ :: _ :: _ :: _, h => have := h.1; simp at this
theorem FRel.s_inv {F : Nat → Nat → Option Value} {v : Value} {l : List UInt8} (h : FRel F v (.s l)) : v = .string ⟨l.toArray⟩ := by cases h; rfl
theorem FRel.i_inv {F : Nat → Nat → Option Value} {v : Value} {k : IntKind} {n : Int} (h : FRel F v (.i k n)) : v = .int k n := by cases h; rfl
theorem contains_ok {P : Program} {Gl : Gmap} {f : FuncId} {gb : Nat} {m : Int} (hg : Gl gb 0 = some (.int .i64 m)) (hc : ∀ (s sub : ByteArray) (m : Int) (w : World), s.size < 4294967281 → w.cell? ⟨gb, 0, none⟩ = some (.int .i64 m) →
    Calls P f #[.string s, .string sub] w fun e w' => e = .returned (.bool (Lib.contains s.data.toList sub.data.toList)) ∧ w' = w) : PureOK P Gl f gContains := by
  refine pure_plain fun args r hr => ?_
  unfold gContains at hr
  split at hr
  · rename_i a b
    split at hr
    · rename_i hl
      simp only [Option.some.injEq] at hr
      subst hr
      refine ⟨rfl, rfl, fun vs F w hw hf => ?_⟩
      obtain ⟨u, v, rfl, hu, hv⟩ := hf.two
      rw [hu.s_inv, hv.s_inv]
      refine (hc ⟨a.toArray⟩ ⟨b.toArray⟩ m w (by simpa [ByteArray.size] using hl) (hw _ _ _ hg)).mono ?_
      rintro e w' ⟨rfl, rfl⟩
      exact ⟨_, rfl, by rw [hasS_eq]; exact .b _, rfl⟩
    · simp at hr
  · simp at hr
theorem count_ok {P : Program} {Gl : Gmap} {f : FuncId} (hc : ∀ (s : ByteArray) (c : UInt8) (w : World),
    Calls P f #[.string s, .string ⟨#[c]⟩] w fun e w' => e = .returned (.int .i64 (Lib.countByte s.data.toList c)) ∧ w' = w) : PureOK P Gl f gCount := by
  refine pure_plain fun args r hr => ?_
  unfold gCount at hr
  split at hr
  · rename_i a c
    simp only [Option.some.injEq] at hr
    subst hr
    refine ⟨rfl, rfl, fun vs F w hw hf => ?_⟩
    obtain ⟨u, v, rfl, hu, hv⟩ := hf.two
    rw [hu.s_inv, hv.s_inv]
    refine (hc ⟨a.toArray⟩ c w).mono ?_
    rintro e w' ⟨rfl, rfl⟩
    exact ⟨_, rfl, by rw [cntS_eq]; exact .i _ _, rfl⟩
  · simp at hr
theorem indexByte_ok {P : Program} {Gl : Gmap} {f : FuncId} (hc : ∀ (s : ByteArray) (c : Int) (w : World),
    Calls P f #[.string s, .int .u8 c] w fun e w' => e = .returned (.int .i64 (Lib.indexByte s.data.toList c.toNat.toUInt8)) ∧ w' = w) : PureOK P Gl f gIndexByte := by
  refine pure_plain fun args r hr => ?_
  unfold gIndexByte at hr
  split at hr
  · rename_i a c
    simp only [Option.some.injEq] at hr
    subst hr
    refine ⟨rfl, rfl, fun vs F w hw hf => ?_⟩
    obtain ⟨u, v, rfl, hu, hv⟩ := hf.two
    rw [hu.s_inv, hv.i_inv]
    refine (hc ⟨a.toArray⟩ c w).mono ?_
    rintro e w' ⟨rfl, rfl⟩
    refine ⟨_, rfl, ?_, rfl⟩
    have : posS c.toNat.toUInt8 a 0 = Lib.indexByte a c.toNat.toUInt8 := by
      rw [posS_eq]
      split
      · rename_i h; rw [h]
      · simp
    rw [this]; exact .i _ _
  · simp at hr
end Go.Pe
