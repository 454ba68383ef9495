/-
 Slices of one's own in runs over plain data: nil, or an object; what appends and calls do to them. No condition; nothing of the program.
-/
import Derived.Test.YtaepgkghgcchnaaDoorPe6
set_option linter.unusedVariables false
set_option linter.unusedSimpArgs false
namespace Go.Pe
open Go

def keyOf : PV → List Nat
 | .rsl k _ _ _ => [k]
 | _ => []
def Own (st : St) (sz : Nat) (v : PV) (n : Nat) (cs : List PV) : Prop :=
 (v = .nsl ∧ n = 0 ∧ cs = []) ∨ ∃ k, v = .rsl k sz 0 n ∧ st.get k = some (.cells cs false) ∧ cs.length = n * sz ∧ k < st.cnt
theorem Own.nil (st : St) (sz : Nat) : Own st sz .nsl 0 [] := .inl ⟨rfl, rfl, rfl⟩
theorem Own.len {st : St} {sz n : Nat} {v : PV} {cs : List PV} (h : Own st sz v n cs) : Ngx v = some (.i .i64 n) := by
 rcases h with ⟨rfl, rfl, _⟩ | ⟨k, rfl, _⟩ <;> rfl
theorem Own.lt {st : St} {sz n : Nat} {v : PV} {cs : List PV} (h : Own st sz v n cs) : ∀ k, k ∈ keyOf v → k < st.cnt := by
 rcases h with ⟨rfl, _, _⟩ | ⟨k, rfl, _, _, hk⟩
 ·intro k hk; simp [keyOf] at hk
 ·intro j hj; simp [keyOf] at hj; omega
theorem Own.cells {st : St} {sz n : Nat} {v : PV} {cs : List PV} (h : Own st sz v n cs) : cellsOf st sz v = some (n, cs) := by
 rcases h with ⟨rfl, rfl, rfl⟩ | ⟨k, rfl, h1, h2, _⟩
 ·rfl
 ·unfold cellsOf
  simp only [h1, cut?, Nat.zero_add, List.drop_zero, ne_eq, not_true_eq_false, if_false]
  rw [if_pos (by omega), ← h2, List.take_length]
  rfl
theorem Own.move {st st' : St} {sz n : Nat} {v : PV} {cs : List PV} (h : Own st sz v n cs) (hc : st.cnt ≤ st'.cnt) (hg : ∀ j, j ∈ keyOf v → j < st.cnt → st'.get j = st.get j) : Own st' sz v n cs := by
 rcases h with h | ⟨k, rfl, h1, h2, h3⟩
 ·exact .inl h
 ·exact .inr ⟨k, rfl, by rw [hg k (by simp [keyOf]) h3]; exact h1, h2, by omega⟩
theorem Own.cnt {sto : Trie PObj} {c c' sz n : Nat} {v : PV} {cs : List PV} (h : Own ⟨sto, c⟩ sz v n cs) (hc : c ≤ c') : Own ⟨sto, c'⟩ sz v n cs := h.move hc fun _ _ _ => rfl
theorem Own.put {st : St} {k sz n : Nat} {v : PV} {cs : List PV} {o : Option PObj} (h : Own st sz v n cs) (hk : k ∉ keyOf v) : Own (st.put k o) sz v n cs := h.move (Nat.le_refl _) fun j hj _ => St.get_put_ne fun e => hk (e ▸ hj)
theorem Own.deep {st : St} {sz n : Nat} {v : PV} {cs : List PV} (h : Own st sz v n cs) (hf : cs.all PV.flat = true) : (v = .nsl ∧ n = 0 ∧ cs = [] ∧ Go.Pe.deep st 12 v = some .nsl) ∨ Go.Pe.deep st 12 v = some (.fsl n cs) := by
 rcases h with ⟨rfl, rfl, rfl⟩ | ⟨k, rfl, h1, h2, _⟩
 ·exact .inl ⟨rfl, rfl, rfl, rfl⟩
 ·refine .inr ?_
  show Go.Pe.deep st (11 + 1) _ = _
  unfold Go.Pe.deep
  simp only [h1, cut?, Nat.zero_add, List.drop_zero]
  rw [if_pos (by omega), ← h2, List.take_length]
  have : mapO (Go.Pe.deep st 11) cs = some cs := by
   clear h1 h2
   induction cs with
   | nil => rfl
   | cons c r ih =>
     simp only [List.all_cons, Bool.and_eq_true] at hf
     have e : Go.Pe.deep st 11 c = some c := by
      cases c <;> first | rfl | (simp [PV.flat] at hf)
     simp only [mapO, e, ih hf.2]
  simp only [this]
  rfl
theorem Own.obj {st : St} {sz n : Nat} {v : PV} {cs : List PV} (h : Own st sz v n cs) (hn : n ≠ 0) : ∃ k, v = .rsl k sz 0 n ∧ st.get k = some (.cells cs false) ∧ cs.length = n * sz ∧ k < st.cnt := by
 rcases h with ⟨_, h, _⟩ | h
 ·exact absurd h hn
 ·exact h
end Go.Pe
