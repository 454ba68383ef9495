/-
  Regions in an open order where some write: what the interpreter looks at suffices. No condition; nothing of the program.
-/
import Derived.Test.YtaepgkghgcchnaaPeCj
set_option linter.unusedVariables false
set_option linter.unusedSimpArgs false
namespace Go.Pe
open Go Go.Am Go.RowKit

theorem zip_same {α : Type} {g : α → α → Bool} : ∀ (x y : List α), (∀ a, a ∈ x → ∀ c, g a c = true → a = c) → x.length = y.length → (x.zip y).all (fun p => g p.1 p.2) = true → x = y
  | [], [], _, _, _ => rfl
  | [], _ :: _, _, h, _ => by simp at h
  | _ :: _, [], _, h, _ => by simp at h
  | a :: x, c :: y, hg, hl, h => by
    simp only [List.zip_cons_cons, List.all_cons, Bool.and_eq_true] at h
    rw [hg a (by simp) c h.1, zip_same x y (fun b hb => hg b (by simp [hb])) (by simpa using hl) h.2]
theorem PV.same_eq : ∀ (f : Nat) (a c : PV), PV.same f a c = true → a = c
  | 0, _, _, h => by simp [PV.same] at h
  | f + 1, a, c, h => by
    have hz : ∀ x y : List PV, x.length = y.length → (x.zip y).all (fun p => PV.same f p.1 p.2) = true → x = y := fun x y => zip_same x y (fun a _ c hac => PV.same_eq f a c hac)
    cases a <;> cases c <;> first
      | rfl
      | (simp [PV.same] at h; done)
      | skip
    all_goals simp only [PV.same, Bool.and_eq_true, beq_iff_eq, decide_eq_true_eq] at h
    all_goals first
      | (obtain ⟨h1, h2⟩ := h; rw [hz _ _ h1 h2]; done)
      | (obtain ⟨⟨h0, h1⟩, h2⟩ := h; rw [h0, hz _ _ h1 h2]; done)
      | (obtain ⟨⟨⟨h9, h0⟩, h1⟩, h2⟩ := h; rw [h9, h0, hz _ _ h1 h2]; done)
      | (obtain ⟨⟨⟨h9, h0⟩, h1⟩, h2⟩ := h; rw [h9, h0, h1, h2]; done)
      | (obtain ⟨h1, h2⟩ := h; rw [h1, h2]; done)
      | (rw [h]; done)
theorem PObj.same_eq {a c : Option PObj} (h : PObj.same a c = true) : a = c := by
  cases a with
  | none => cases c <;> first | rfl | (simp [PObj.same] at h)
  | some a =>
    cases c with
    | none => cases a <;> simp [PObj.same] at h
    | some c =>
      cases a with
      | cells x b =>
        cases c with
        | cells y d =>
          simp only [PObj.same, Bool.and_eq_true, beq_iff_eq] at h
          rw [h.1.1, zip_same x y (fun a _ c hac => PV.same_eq _ a c hac) h.1.2 h.2]
        | map y => simp [PObj.same] at h
        | iter y q => simp [PObj.same] at h
      | map x =>
        cases c with
        | cells y d => simp [PObj.same] at h
        | map y =>
          simp only [PObj.same, Bool.and_eq_true, beq_iff_eq] at h
          rw [zip_same (g := fun p q : PV × PV => PV.same deepS p.1 q.1 && PV.same deepS p.2 q.2) x y (fun a _ c hac => by
            simp only [Bool.and_eq_true] at hac
            exact Prod.ext (PV.same_eq _ _ _ hac.1) (PV.same_eq _ _ _ hac.2)) h.1 (by simpa using h.2)]
        | iter y q => simp [PObj.same] at h
      | iter x p =>
        cases c with
        | cells y d => simp [PObj.same] at h
        | map y => simp [PObj.same] at h
        | iter y q =>
          simp only [PObj.same, Bool.and_eq_true, beq_iff_eq] at h
          rw [h.1, h.2]
theorem evTr_seq {cfg : Cfg} {callE : CallE} : ∀ (ml : List MOper) (key : Nat) (c c' : Loc) (tr : List (Loc × PV)), evTr cfg callE ml key c = some (tr, c') →
    ∃ (cs : Nat → Loc) (rs : Nat → PV), cs 0 = c ∧ cs ml.length = c' ∧ tr.length = ml.length ∧ (∀ i, i < ml.length → tr[i]? = some (cs i, rs i)) ∧ ∀ i mo, ml[i]? = some mo → StepAt cfg callE (key + 8 * i) mo (cs i) (rs i) (cs (i + 1))
  | [], key, c, c', tr, h => by
    simp only [evTr, Option.some.injEq, Prod.mk.injEq] at h
    obtain ⟨rfl, rfl⟩ := h
    exact ⟨fun _ => c, fun _ => .und, rfl, rfl, rfl, fun i hi => by simp at hi, fun i mo hi => by simp at hi⟩
  | o :: ml, key, c, c', tr, h => by
    simp only [evTr] at h
    have key' : ∀ i, key + 8 + 8 * i = key + 8 * (i + 1) := by intro i; omega
    have fin : ∀ (v : PV) (c1 : Loc) (tr' : List (Loc × PV)), evTr cfg callE ml (key + 8) c1 = some (tr', c') → tr = (c, v) :: tr' → StepAt cfg callE key o c v c1 →
        ∃ (cs : Nat → Loc) (rs : Nat → PV), cs 0 = c ∧ cs (o :: ml).length = c' ∧ tr.length = (o :: ml).length ∧ (∀ i, i < (o :: ml).length → tr[i]? = some (cs i, rs i)) ∧ ∀ i mo, (o :: ml)[i]? = some mo → StepAt cfg callE (key + 8 * i) mo (cs i) (rs i) (cs (i + 1)) := by
      intro v c1 tr' he ht hs0
      obtain ⟨cs, rs, h0, hN, hl, htr, hs⟩ := evTr_seq ml _ _ _ _ he
      refine ⟨fun i => match i with | 0 => c | i + 1 => cs i, fun i => match i with | 0 => v | i + 1 => rs i, rfl, hN, by rw [ht]; simp [hl], ?_, ?_⟩
      · intro i hi
        rw [ht]
        cases i with
        | zero => rfl
        | succ i => simpa using htr i (by simpa using hi)
      · intro i mo hi
        cases i with
        | zero =>
          simp only [List.getElem?_cons_zero, Option.some.injEq] at hi
          subst hi
          show StepAt cfg callE (key + 8 * 0) o c v (cs 0)
          rw [h0]; exact hs0
        | succ i =>
          have := hs i mo (by simpa using hi)
          rw [key'] at this
          exact this
    split at h
    · rename_i hg
      split at h
      · rename_i v st hev
        simp only [Option.map_eq_some_iff, Prod.mk.injEq] at h
        obtain ⟨⟨tr', c2⟩, he, rfl, rfl⟩ := h
        exact fin v _ tr' he rfl (.inl ⟨hg, st, hev, rfl⟩)
      · simp at h
    · rename_i hg
      simp only [Option.map_eq_some_iff, Prod.mk.injEq] at h
      obtain ⟨⟨tr', c2⟩, he, rfl, rfl⟩ := h
      exact fin _ _ tr' he rfl (.inr ⟨hg, rfl, rfl⟩)
    · simp at h
section
variable {ml : List MOper} {tr : List (Loc × PV)} {c' : Loc} {key t : Nat}
theorem sigA_cnt : ∀ (l : List Nat) (st : St), (sigA ml tr c' key t l st).cnt = st.cnt
  | [], st => rfl
  | q :: l, st => by
    simp only [sigA]
    split
    · split
      · rw [sigA_cnt l]; rfl
      · rw [sigA_cnt l]
    · rw [sigA_cnt l]
theorem sigA_some : ∀ (l : List Nat) (st : St) (k : Nat) (y : PObj), (sigA ml tr c' key t l st).get k = some y → st.get k = some y ∨ ∃ q, q ∈ l ∧ t ≤ q ∧ quietAt ml q = true ∧ k = key + 8 * q ∧ (stAt tr c' (q + 1)).get (key + 8 * q) = some y
  | [], st, k, y, h => .inl h
  | q :: l, st, k, y, h => by
    simp only [sigA] at h
    split at h
    · rename_i hc
      simp only [Bool.and_eq_true, decide_eq_true_eq] at hc
      split at h
      · rename_i o ho
        rcases sigA_some l _ k y h with h1 | ⟨q', a, b⟩
        · rcases St.get_put h1 with ⟨rfl, e⟩ | ⟨_, e⟩
          · right; exact ⟨q, by simp, hc.1, hc.2, rfl, by rw [ho]; exact e⟩
          · exact .inl e
        · right; exact ⟨q', by simp [a], b⟩
      · rcases sigA_some l _ k y h with h1 | ⟨q', a, b⟩
        · exact .inl h1
        · right; exact ⟨q', by simp [a], b⟩
    · rcases sigA_some l _ k y h with h1 | ⟨q', a, b⟩
      · exact .inl h1
      · right; exact ⟨q', by simp [a], b⟩
theorem sigA_other : ∀ (l : List Nat) (st : St) (k : Nat), (∀ q, q ∈ l → t ≤ q → quietAt ml q = true → k ≠ key + 8 * q) → (sigA ml tr c' key t l st).get k = st.get k
  | [], st, k, h => rfl
  | q :: l, st, k, h => by
    simp only [sigA]
    have ih := fun st => sigA_other l st k (fun q hq => h q (by simp [hq]))
    split
    · rename_i hc
      simp only [Bool.and_eq_true, decide_eq_true_eq] at hc
      split
      · rw [ih, St.get_put_ne (fun e => h q (by simp) hc.1 hc.2 e.symm)]
      · rw [ih]
    · rw [ih]
theorem sigA_at : ∀ (l : List Nat) (st : St) (q : Nat), q ∈ l → l.Nodup → t ≤ q → quietAt ml q = true → (∀ y, (stAt tr c' (q + 1)).get (key + 8 * q) = some y → (sigA ml tr c' key t l st).get (key + 8 * q) = some y)
  | [], st, q, h, _, _, _ => by simp at h
  | p :: l, st, q, h, hn, ht, hq => by
    intro y hy
    rw [List.nodup_cons] at hn
    simp only [sigA]
    by_cases e : p = q
    · subst e
      rw [if_pos (by simp [ht, hq])]
      rw [hy]
      simp only []
      rw [sigA_other l _ _ (fun q' hq' _ _ e => hn.1 (by rw [show p = q' by omega]; exact hq')), St.get_put_same _ (St.get_range hy)]
    · have hq' : q ∈ l := by simpa [show q ≠ p from fun h => e h.symm] using h
      split
      · split
        · exact sigA_at l _ q hq' hn.2 ht hq y hy
        · exact sigA_at l _ q hq' hn.2 ht hq y hy
      · exact sigA_at l _ q hq' hn.2 ht hq y hy
end
end Go.Pe
