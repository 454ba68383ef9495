/-
  A segment that is cut: the frames that are whole. No condition; nothing of the program.
-/
import Derived.Test.YtogdkhejfkbnmaaSegQ
set_option linter.unusedVariables false
set_option linter.unusedSimpArgs false
namespace Go.Pe
open Go Go.Am Go.RowKit

theorem chunks_take {each : Nat} (h : 1 ≤ each) : ∀ (f : Nat) (l : List Ev) (w : Nat), l.length ≤ f → ((chunks each f l).take w).flatten = l.take (w * each)
  | 0, l, w, hl => by
    have : l = [] := List.length_eq_zero_iff.mp (by omega)
    subst this
    simp [chunks]
  | f + 1, l, w, hl => by
    unfold chunks
    by_cases h0 : l = []
    · simp [h0]
    · rw [if_neg h0]
      cases w with
      | zero => simp
      | succ w =>
        have hp := List.length_pos_iff.mpr h0
        rw [List.take_succ_cons, List.flatten_cons, chunks_take h f (l.drop each) w (by rw [List.length_drop]; omega), show (w + 1) * each = each + w * each by rw [Nat.succ_mul]; omega, List.take_add]
theorem segB_split (n : Nat) (cs : List (List Ev)) (w : Nat) : segB n cs = segB n (cs.take w) ++ ((cs.drop w).map frameL).flatten := by
  unfold segB
  rw [List.append_assoc, ← List.flatten_append, ← List.map_append, List.take_append_drop]
theorem segB_next {n : Nat} {cs : List (List Ev)} {w : Nat} {c : List Ev} (h : cs[w]? = some c) : segB n (cs.take (w + 1)) = segB n (cs.take w) ++ frameL c := by
  unfold segB
  rw [List.take_add_one, h]
  simp
theorem scan_cut {n : Nat} (hn : n ≤ 4611686018427387904) {cs : List (List Ev)} (hg : ∀ c ∈ cs, goodF c) {k w : Nat} (h1 : (segB n (cs.take w)).length ≤ k) (h2 : w < cs.length → k < (segB n (cs.take (w + 1))).length) : scanR ((segB n cs).take k) = .inl (n, (cs.take w).flatten, ((segB n (cs.take w)).length : Int)) := by
  rw [segB_split n cs w, List.take_append, List.take_of_length_le h1]
  refine scan_seg hn (fun c hc => hg c (List.mem_of_mem_take hc)) ?_
  intro l r hl
  cases hd : cs.drop w with
  | nil => simp only [List.map_nil, List.flatten_nil, List.take_nil]; exact no_frame_nil
  | cons c t =>
    have hw : w < cs.length := by
      have := congrArg List.length hd
      rw [List.length_drop, List.length_cons] at this
      omega
    have hc : cs[w]? = some c := by rw [← List.head?_drop, hd]; rfl
    have h3 := h2 hw
    rw [segB_next hc, List.length_append] at h3
    have hm : c ∈ cs := List.mem_of_getElem? hc
    simp only [List.map_cons, List.flatten_cons]
    rw [List.take_append_of_le_length (by omega)]
    exact no_frame_cut (hg c hm).2.1 hl (by omega)
def endP (n : Nat) (cs : List (List Ev)) (j : Nat) : Nat := (segB n (cs.take j)).length
def endsC (n : Nat) (cs : List (List Ev)) (d : Nat) : List PV := (List.range (d + 1)).map fun j => .i .i64 (endP n cs j : Int)
theorem endsC_len (n : Nat) (cs : List (List Ev)) (d : Nat) : (endsC n cs d).length = d + 1 := by simp [endsC]
theorem endsC_next (n : Nat) (cs : List (List Ev)) (d : Nat) : endsC n cs (d + 1) = endsC n cs d ++ [.i .i64 (endP n cs (d + 1) : Int)] := by
  unfold endsC
  rw [List.range_succ, List.map_append]; rfl
theorem endsC_one (n : Nat) (cs : List (List Ev)) (d : Nat) : (endsC n cs d).all PV.one = true := by
  unfold endsC
  rw [List.all_eq_true]
  intro x hx
  obtain ⟨j, _, rfl⟩ := List.mem_map.mp hx
  rfl
theorem endsC_load {st : St} {q n d : Nat} {cs : List (List Ev)} {fz : Bool} (hk : st.get q = some (.cells (endsC n cs d) fz)) {j : Nat} (hj : j ≤ d) : loadP st 1 (.ptr q j) = some [.i .i64 (endP n cs j : Int)] := by
  unfold loadP
  simp only [hk]
  unfold cut?
  rw [if_pos (by rw [endsC_len]; omega)]
  unfold endsC
  rw [← List.map_drop, ← List.map_take, List.drop_eq_getElem_cons (by rw [List.length_range]; omega)]
  simp
theorem endP_le {n : Nat} {cs : List (List Ev)} (hg : ∀ c ∈ cs, goodF c) (hl : cs.length ≤ 300) (j : Nat) : endP n cs j ≤ 60000000 := by
  unfold endP segB
  have h1 := @headB_len n
  have h2 := flat_len (cs.take j) fun c hc => hg c (List.mem_of_mem_take hc)
  have h3 : (cs.take j).length ≤ 300 := by rw [List.length_take]; omega
  rw [List.length_append]
  omega
theorem endP_0 (n : Nat) (cs : List (List Ev)) : endP n cs 0 = (headB n).length := by simp [endP, segB]
theorem endP_mono (n : Nat) (cs : List (List Ev)) {i j : Nat} (h : i ≤ j) : endP n cs i ≤ endP n cs j := by
  unfold endP
  rw [segB_split n (cs.take j) i, List.length_append, List.take_take, Nat.min_eq_left h]
  omega
theorem endP_all {n : Nat} {cs : List (List Ev)} {j : Nat} (h : cs.length ≤ j) : endP n cs j = (segB n cs).length := by
  unfold endP
  rw [List.take_of_length_le h]
theorem frameL_pos {l : List Ev} : 0 < (frameL l).length := by
  rcases Nat.eq_zero_or_pos (frameL l).length with h | h
  · have := List.length_eq_zero_iff.mp h
    exact absurd (show ([] : List UInt8) = frameL l ++ [] by rw [this]; rfl) no_frame_nil
  · exact h
theorem endP_step {n : Nat} {cs : List (List Ev)} {j : Nat} (h : j < cs.length) : endP n cs j < endP n cs (j + 1) := by
  have hc : cs[j]? = some cs[j] := List.getElem?_eq_getElem h
  unfold endP
  rw [segB_next hc, List.length_append]
  have := @frameL_pos cs[j]
  omega
theorem deep_pre {st : St} {k m : Nat} {fz : Bool} {L : List UInt8} (hk : st.get k = some (.cells (ofBytes L) fz)) (hm : m ≤ L.length) : Go.Pe.deep st 12 (.rsl k 1 0 m) = some (.fsl (L.take m).length (ofBytes (L.take m))) := by
  have hl : (L.take m).length = m := by rw [List.length_take]; omega
  have h := deep_bytes hk (off := 0) (n := m) (by omega)
  rw [hl]
  rw [List.drop_zero] at h
  exact h
end Go.Pe
