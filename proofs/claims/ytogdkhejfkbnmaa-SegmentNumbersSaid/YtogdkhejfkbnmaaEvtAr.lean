/-
  Events and bytes as they are drawn. No condition.
-/
import Derived.Test.YtogdkhejfkbnmaaEvtI
import Derived.Test.YtogdkhejfkbnmaaEvtL
import Derived.Test.YtogdkhejfkbnmaaView
set_option linter.unusedVariables false
set_option linter.unusedSimpArgs false
namespace Go.Pe
open Go Go.Am Go.RowKit

def evSh : Sh := .st (.cons (.i .i64) (.cons (.i .u8) (.cons (.i .i64) (.cons (.i .i64) (.cons (.i .i64) .nil)))))
theorem is_ev {cs : List PV} (h : evSh.Is cs) : ∃ e : Ev, cs = evC e ∧ EvIn e := by
  obtain ⟨⟨t, h1, w1⟩, ⟨o, h2, w2⟩, ⟨j, h3, w3⟩, ⟨a, h4, w4⟩, ⟨b, h5, w5⟩, h6⟩ := h
  simp only [Sh.width] at h1 h2 h3 h4 h5 h6
  have q1 := congrArg (fun l => l[0]?) h1
  have q2 := congrArg (fun l => l[0]?) h2
  have q3 := congrArg (fun l => l[0]?) h3
  have q4 := congrArg (fun l => l[0]?) h4
  have q5 := congrArg (fun l => l[0]?) h5
  have q6 := congrArg List.length h6
  simp only [List.getElem?_take, List.getElem?_drop, List.getElem?_cons_zero, List.length_drop, List.length_nil] at q1 q2 q3 q4 q5 q6
  match cs, q1, q2, q3, q4, q5, q6 with
  | [x0, x1, x2, x3, x4], q1, q2, q3, q4, q5, _ =>
    simp at q1 q2 q3 q4 q5
    subst q1 q2 q3 q4 q5
    have hu := u8_wf w2
    refine ⟨⟨t, UInt8.ofNat o.toNat, j, a, b⟩, ?_, i64_wf w1, i64_wf w3, i64_wf w4, i64_wf w5⟩
    have h2 : (((UInt8.ofNat o.toNat).toNat : Nat) : Int) = o := by
      rw [UInt8.toNat_ofNat']; omega
    unfold evC
    simp only [h2]
  | [], q1, _, _, _, _, _ => simp at q1
  | [_], _, q2, _, _, _, _ => simp at q2
  | [_, _], _, _, q3, _, _, _ => simp at q3
  | [_, _, _], _, _, _, q4, _, _ => simp at q4
  | [_, _, _, _], _, _, _, _, q5, _ => simp at q5
  | _ :: _ :: _ :: _ :: _ :: _ :: _, _, _, _, _, _, q6 => simp at q6
theorem is_evs : ∀ {n : Nat} {ps : List PV}, ps.length = n * 5 → (∀ j, j < n → evSh.Is ((ps.drop (j * 5)).take 5)) → ∃ l : List Ev, ps = evsC l ∧ l.length = n ∧ ∀ e ∈ l, EvIn e
  | 0, ps, hl, _ => ⟨[], by have : ps = [] := List.length_eq_zero_iff.1 (by omega); rw [this]; rfl, rfl, by simp⟩
  | n + 1, ps, hl, h => by
    obtain ⟨e, h1, h2⟩ := is_ev (h 0 (by omega))
    obtain ⟨l, q1, q2, q3⟩ := is_evs (n := n) (ps := ps.drop 5) (by rw [List.length_drop]; omega) (fun j hj => by
      have := h (j + 1) (by omega)
      rw [List.drop_drop, show 5 + j * 5 = (j + 1) * 5 by omega]
      exact this)
    refine ⟨e :: l, ?_, by simp [q2], ?_⟩
    · show ps = evC e ++ evsC l
      rw [← h1, ← q1, Nat.zero_mul, List.drop_zero, List.take_append_drop]
    · intro x hx
      rcases List.mem_cons.1 hx with rfl | hx
      · exact h2
      · exact q3 x hx
theorem is_bytes : ∀ {n : Nat} {ps : List PV}, ps.length = n * 1 → (∀ j, j < n → (Sh.i .u8).Is ((ps.drop (j * 1)).take 1)) → ∃ l : List UInt8, ps = ofBytes l ∧ l.length = n
  | 0, ps, hl, _ => ⟨[], by have : ps = [] := List.length_eq_zero_iff.1 (by omega); rw [this]; rfl, rfl⟩
  | n + 1, ps, hl, h => by
    obtain ⟨x, h1, h2⟩ := h 0 (by omega)
    obtain ⟨l, q1, q2⟩ := is_bytes (n := n) (ps := ps.drop 1) (by rw [List.length_drop]; omega) (fun j hj => by
      have := h (j + 1) (by omega)
      rw [List.drop_drop, show 1 + j * 1 = (j + 1) * 1 by omega]
      exact this)
    have hu := u8_wf h2
    refine ⟨UInt8.ofNat x.toNat :: l, ?_, by simp [q2]⟩
    have h3 : (((UInt8.ofNat x.toNat).toNat : Nat) : Int) = x := by
      rw [UInt8.toNat_ofNat']; omega
    show ps = .i .u8 ((UInt8.ofNat x.toNat).toNat : Int) :: ofBytes l
    rw [h3, ← q1]
    have : ps = ps.take 1 ++ ps.drop 1 := (List.take_append_drop 1 ps).symm
    rw [Nat.zero_mul, List.drop_zero] at h1
    rw [this, h1]
    rfl
end Go.Pe
