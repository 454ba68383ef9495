/-
  Regions in an open order where some write: the states. No condition; nothing of the program.
-/
import Derived.Test.YtaepgkghgcchnaaPeCk
set_option linter.unusedVariables false
set_option linter.unusedSimpArgs false
namespace Go.Pe
open Go Go.Am Go.RowKit

/-- the text's run, looked at -/
structure TCtx (cfg : Cfg) (callE : CallE) (N : Nat) (ml : List MOper) (masks : List Nat) (tr : List (Loc × PV)) (c' : Loc) (key : Nat) (sw : Option (Nat × Nat)) (cs : Nat → Loc) (rs : Nat → PV) : Prop where
  len : ml.length = N
  trc : ∀ i, i < N → tr[i]? = some (cs i, rs i)
  trl : tr.length = N
  fin : cs N = c'
  step : ∀ (i : Nat) (mo : MOper), ml[i]? = some mo → StepAt cfg callE (key + 8 * i) mo (cs i) (rs i) (cs (i + 1))
  new0 : ∀ m, (cs 0).st.get (key + 8 * m) = none
  dyn : chainDyn cfg callE ml masks tr c' key = true
  tot : ∀ i j, i < j → j < N → quietAt ml i = false → quietAt ml j = false → aheadB masks j i = true ∨ sw = some (i, j)
section
variable {cfg : Cfg} {callE : CallE} {N : Nat} {ml : List MOper} {masks : List Nat} {tr : List (Loc × PV)} {c' : Loc} {key : Nat} {sw : Option (Nat × Nat)} {cs : Nat → Loc} {rs : Nat → PV}
theorem TCtx.stAt (T : TCtx cfg callE N ml masks tr c' key sw cs rs) {i : Nat} (h : i ≤ N) : stAt tr c' i = (cs i).st := by
  unfold Go.Pe.stAt
  by_cases e : i < N
  · rw [T.trc i e]
  · have : i = N := by omega
    subst this
    rw [List.getElem?_eq_none (by rw [T.trl]; omega), T.fin]
theorem TCtx.mo (T : TCtx cfg callE N ml masks tr c' key sw cs rs) {i : Nat} (h : i < N) : ∃ mo, ml[i]? = some mo ∧ quietAt ml i = quietB mo.op :=
  ⟨ml[i]'(by rw [T.len]; exact h), List.getElem?_eq_getElem _, by simp [quietAt, T.len, h]⟩
theorem TCtx.st1 (T : TCtx cfg callE N ml masks tr c' key sw cs rs) {i : Nat} (h : i < N) (hq : quietAt ml i = true) : (cs (i + 1)).st = (cs i).st ∨ ∃ o, (cs (i + 1)).st = (cs i).st.put (key + 8 * i) (some o) := by
  obtain ⟨mo, hmo, e⟩ := T.mo h
  rcases T.step i mo hmo with ⟨_, st, hev, hc⟩ | ⟨_, _, hc⟩
  · rw [hc, wr_st]
    exact quiet_store (by rw [← e]; exact hq) hev
  · rw [hc, wr_st]; exact .inl rfl
theorem TCtx.dynQ (T : TCtx cfg callE N ml masks tr c' key sw cs rs) {q t : Nat} (hq : q < N) (hqq : quietAt ml q = true) (ht : t ≤ N) (htc : t = N ∨ quietAt ml t = false) : textAt ml q t = true ∨ mayAt ml masks q t = false ∨ again cfg callE ml tr c' key q t = true := by
  have h := List.all_eq_true.1 T.dyn q (by rw [T.len]; simpa using hq)
  rw [if_pos hqq] at h
  have h2 := List.all_eq_true.1 h t (by rw [T.len]; simp; omega)
  simp only [Bool.or_eq_true, Bool.and_eq_true, decide_eq_true_eq, Bool.not_eq_true'] at h2
  rcases h2 with ((⟨h3, h4⟩ | h3) | h3) | h3
  · exfalso
    rw [T.len] at h3
    rcases htc with e | e
    · omega
    · rw [e] at h4; simp at h4
  · exact .inl h3
  · exact .inr (.inl h3)
  · exact .inr (.inr h3)
theorem TCtx.dynC (T : TCtx cfg callE N ml masks tr c' key sw cs rs) {j : Nat} (hj : j < N) (hjq : quietAt ml j = false) : (∀ m, j < m → m < N → (cs (j + 1)).st.get (key + 8 * m) = none) ∧ (∀ m, m < j → quietAt ml m = true → aheadB masks j m = true ∨ (cs j).st.get (key + 8 * m) = none) := by
  have h := List.all_eq_true.1 T.dyn j (by rw [T.len]; simpa using hj)
  rw [if_neg (by rw [hjq]; simp)] at h
  refine ⟨fun m h1 h2 => ?_, fun m h1 h2 => ?_⟩
  · have h3 := List.all_eq_true.1 h m (by rw [T.len]; simpa using h2)
    rw [if_pos h1, T.stAt (i := j + 1) (by omega)] at h3
    simpa using h3
  · have h3 := List.all_eq_true.1 h m (by rw [T.len]; simp; omega)
    rw [if_neg (by omega), if_pos (by simp [h1, h2]), T.stAt (i := j) (by omega)] at h3
    simpa using h3
theorem TCtx.fresh (T : TCtx cfg callE N ml masks tr c' key sw cs rs) : ∀ i m, i ≤ m → m < N → (cs i).st.get (key + 8 * m) = none
  | 0, m, _, _ => T.new0 m
  | i + 1, m, h, hm => by
    cases hq : quietAt ml i with
    | true =>
      have ih := T.fresh i m (by omega) hm
      rcases T.st1 (by omega) hq with e | ⟨o, e⟩
      · rw [e]; exact ih
      · rw [e, St.get_put_ne (by omega)]; exact ih
    | false => exact (T.dynC (by omega) hq).1 m (by omega) hm
/-- along quiet ones -/
theorem TCtx.along (T : TCtx cfg callE N ml masks tr c' key sw cs rs) : ∀ t i, i ≤ t → t ≤ N → (∀ m, i ≤ m → m < t → quietAt ml m = true) → (cs t).st.cnt = (cs i).st.cnt ∧ ∀ k, (∀ m, i ≤ m → m < t → k ≠ key + 8 * m) → (cs t).st.get k = (cs i).st.get k
  | 0, i, hi, _, _ => by rw [show i = 0 by omega]; exact ⟨rfl, fun _ _ => rfl⟩
  | t + 1, i, hi, ht, hq => by
    by_cases e : i = t + 1
    · rw [e]; exact ⟨rfl, fun _ _ => rfl⟩
    · obtain ⟨h1, h2⟩ := T.along t i (by omega) (by omega) (fun m a b => hq m a (by omega))
      rcases T.st1 (i := t) (by omega) (hq t (by omega) (by omega)) with e1 | ⟨o, e1⟩
      · rw [e1]; exact ⟨h1, fun k hk => h2 k (fun m a b => hk m a (by omega))⟩
      · rw [e1]
        refine ⟨h1, fun k hk => ?_⟩
        rw [St.get_put_ne (fun e => hk t (by omega) (by omega) e.symm)]
        exact h2 k (fun m a b => hk m a (by omega))
theorem TCtx.sigA (T : TCtx cfg callE N ml masks tr c' key sw cs rs) {t : Nat} (ht : t ≤ N) {k : Nat} {y : PObj} (h : (cs t).st.get k = some y) : (sig ml tr c' key t).get k = some y := by
  unfold sig
  rw [sigA_other]
  · rw [T.stAt ht]; exact h
  · rintro q hq h1 h2 rfl
    rw [T.fresh t q h1 (by rw [← T.len]; simpa using hq)] at h; simp at h
theorem TCtx.sigC (T : TCtx cfg callE N ml masks tr c' key sw cs rs) {t : Nat} (ht : t ≤ N) {k : Nat} {y : PObj} (h : (sig ml tr c' key t).get k = some y) : (cs t).st.get k = some y ∨ ∃ q, q < N ∧ t ≤ q ∧ quietAt ml q = true ∧ k = key + 8 * q ∧ (cs (q + 1)).st.get (key + 8 * q) = some y := by
  rcases sigA_some _ _ _ _ h with h1 | ⟨q, h1, h2, h3, h4, h5⟩
  · rw [T.stAt ht] at h1; exact .inl h1
  · have hq : q < N := by rw [← T.len]; simpa using h1
    right; exact ⟨q, hq, h2, h3, h4, by rwa [T.stAt (by omega)] at h5⟩
theorem TCtx.sigB (T : TCtx cfg callE N ml masks tr c' key sw cs rs) {t q : Nat} (ht : t ≤ q) (hq : q < N) (hqq : quietAt ml q = true) : (sig ml tr c' key t).get (key + 8 * q) = (cs (q + 1)).st.get (key + 8 * q) := by
  cases hx : (cs (q + 1)).st.get (key + 8 * q) with
  | some y => exact sigA_at _ _ q (by rw [T.len]; simpa using hq) List.nodup_range ht hqq y (by rw [T.stAt (by omega)]; exact hx)
  | none =>
    cases hy : (sig ml tr c' key t).get (key + 8 * q) with
    | none => rfl
    | some y =>
      rcases T.sigC (by omega) hy with h | ⟨q', h1, h2, h3, h4, h5⟩
      · rw [T.fresh t q ht hq] at h; simp at h
      · have : q' = q := by omega
        subst this; rw [hx] at h5; simp at h5
theorem TCtx.sigD (T : TCtx cfg callE N ml masks tr c' key sw cs rs) {t q : Nat} (ht : t ≤ N) (hq : q < t) : (sig ml tr c' key t).get (key + 8 * q) = (cs t).st.get (key + 8 * q) := by
  cases hx : (cs t).st.get (key + 8 * q) with
  | some y => exact T.sigA ht hx
  | none =>
    cases hy : (sig ml tr c' key t).get (key + 8 * q) with
    | none => rfl
    | some y =>
      rcases T.sigC ht hy with h | ⟨q', h1, h2, h3, h4, h5⟩
      · rw [hx] at h; simp at h
      · omega
theorem TCtx.sigN (T : TCtx cfg callE N ml masks tr c' key sw cs rs) {t : Nat} (ht : t ≤ N) : (sig ml tr c' key t).cnt = (cs t).st.cnt := by
  unfold sig
  rw [sigA_cnt, T.stAt ht]
/-- the next one that writes -/
theorem next_ex (ml : List MOper) (N : Nat) : ∀ (d i : Nat), i + d = N → ∃ t, i ≤ t ∧ t ≤ N ∧ (t = N ∨ quietAt ml t = false) ∧ ∀ m, i ≤ m → m < t → quietAt ml m = true
  | 0, i, h => ⟨i, Nat.le_refl _, by omega, .inl (by omega), fun m a b => by omega⟩
  | d + 1, i, h => by
    cases hq : quietAt ml i with
    | false => exact ⟨i, Nat.le_refl _, by omega, .inr hq, fun m a b => by omega⟩
    | true =>
      obtain ⟨t, h1, h2, h3, h4⟩ := next_ex ml N d (i + 1) (by omega)
      refine ⟨t, by omega, h2, h3, fun m a b => ?_⟩
      by_cases e : m = i
      · rw [e]; exact hq
      · exact h4 m (by omega) b
theorem TCtx.quietT {ops : Array Oper} (T : TCtx cfg callE ops.size ml masks tr c' key sw cs rs) {t : Nat} (ht : t ≤ ops.size) (htc : t = ops.size ∨ quietAt ml t = false) {q : Nat} {mo : MOper} (hmo : ml[q]? = some mo) (hqb : quietB mo.op = true)
    (hm1 : ∀ w, w < ops.size → quietAt ml w = false → aheadB masks q w = true → w < t) (hm2 : ∀ w, w < ops.size → quietAt ml w = false → aheadB masks w q = true → ¬ w < t) :
    (guardP (cs q) mo.guard = some true → ∃ st st', (∀ k y, st.get k = some y → (sig ml tr c' key t).get k = some y) ∧ st.get (key + 8 * q) = none ∧ st.cnt = (sig ml tr c' key t).cnt ∧ evOp cfg callE (cs q).rd st (key + 8 * q) mo.op = some (rs q, st') ∧ (sig ml tr c' key t).get (key + 8 * q) = st'.get (key + 8 * q)) ∧
    (guardP (cs q) mo.guard = some false → (sig ml tr c' key t).get (key + 8 * q) = none) := by
  have hq : q < ops.size := by rw [← T.len]; exact (List.getElem?_eq_some_iff.1 hmo).1
  have hqq : quietAt ml q = true := by simp [quietAt, hmo, hqb]
  have hmay : mayAt ml masks q t = true := by
    unfold mayAt
    rw [List.all_eq_true]
    intro j hj
    have hj' : j < ops.size := by rw [← T.len]; simpa using hj
    cases hjq : quietAt ml j with
    | true => rfl
    | false =>
      simp only [Bool.false_or, Bool.and_eq_true, Bool.or_eq_true, Bool.not_eq_true', decide_eq_true_eq]
      refine ⟨?_, ?_⟩
      · cases h : aheadB masks q j with
        | false => exact .inl rfl
        | true => exact .inr (hm1 j hj' hjq h)
      · cases h : aheadB masks j q with
        | false => exact .inl rfl
        | true => exact .inr (by have := hm2 j hj' hjq h; omega)
  -- where the text has it
  have text : textAt ml q t = true → q < t ∧ ∀ m, q ≤ m → m < t → quietAt ml m = true := by
    intro h
    have h' : ∀ j, j < ops.size → quietAt ml j = false → (j < t ↔ j < q) := by
      intro j hj hjq
      have := List.all_eq_true.1 h j (by rw [T.len]; simpa using hj)
      rw [hjq] at this
      simp only [Bool.false_or, beq_iff_eq, decide_eq_decide] at this
      exact this
    have hqt : q < t := by
      rcases htc with e | e
      · omega
      · by_cases e2 : t < ops.size
        · have h3 := h' t e2 e
          by_cases e3 : q = t
          · subst e3; rw [e] at hqq; simp at hqq
          · omega
        · omega
    refine ⟨hqt, fun m a b => ?_⟩
    cases hmq : quietAt ml m with
    | true => rfl
    | false => exact absurd ((h' m (by omega) hmq).1 b) (by omega)
  have after : textAt ml q t = true → (sig ml tr c' key t).get (key + 8 * q) = (cs (q + 1)).st.get (key + 8 * q) := by
    intro h
    obtain ⟨h1, h2⟩ := text h
    rw [T.sigD ht h1]
    exact (T.along t (q + 1) (by omega) ht (fun m a b => h2 m (by omega) b)).2 _ (fun m a b => by omega)
  have agn : again cfg callE ml tr c' key q t = true → (sig ml tr c' key t).get (key + 8 * q) = (cs (q + 1)).st.get (key + 8 * q) := by
    intro h
    unfold again at h
    simp only [Bool.and_eq_true, Bool.or_eq_true, decide_eq_true_eq] at h
    by_cases e : t ≤ q
    · exact T.sigB e hq hqq
    · rcases h.1 with h1 | h1
      · omega
      · rw [T.sigD ht (by omega)]
        have := PObj.same_eq h1
        rwa [T.stAt ht, T.stAt (by omega)] at this
  have hcase := T.dynQ hq hqq ht htc
  have hall : (sig ml tr c' key t).get (key + 8 * q) = (cs (q + 1)).st.get (key + 8 * q) := by
    rcases hcase with h | h | h
    · exact after h
    · rw [hmay] at h; simp at h
    · exact agn h
  refine ⟨fun hgd => ?_, fun hgd => ?_⟩
  · rcases hcase with h | h | h
    · obtain ⟨h1, h2⟩ := text h
      rcases T.step q mo hmo with ⟨_, st, hev, hc⟩ | ⟨hgd', _, _⟩
      · have hst : (cs (q + 1)).st = st := by rw [hc, wr_st]
        obtain ⟨a1, a2⟩ := T.along t q (by omega) ht h2
        refine ⟨(cs q).st, st, fun k y hy => ?_, T.fresh q q (Nat.le_refl _) hq, by rw [T.sigN ht, a1], hev, by rw [hall, hst]⟩
        refine T.sigA ht ?_
        rw [a2 k ?_]
        · exact hy
        · rintro m m1 m2 rfl
          rw [T.fresh q m m1 (by omega)] at hy; simp at hy
      · rw [hgd] at hgd'; simp at hgd'
    · rw [hmay] at h; simp at h
    · unfold again at h
      rw [hmo, T.trc q hq] at h
      simp only [hgd, Bool.and_eq_true] at h
      obtain ⟨_, h⟩ := h
      split at h
      · rename_i r' st' hev
        simp only [Bool.and_eq_true] at h
        have e1 := PV.same_eq _ _ _ h.1
        have e2 := PObj.same_eq h.2
        rw [T.stAt (by omega)] at e2
        refine ⟨(sig ml tr c' key t).put (key + 8 * q) none, st', fun k y hy => (St.drop_less _ _ k y hy).2, ?_, rfl, by rw [hev, e1], by rw [hall, e2]⟩
        cases hx : ((sig ml tr c' key t).put (key + 8 * q) none).get (key + 8 * q) with
        | none => rfl
        | some y => exact absurd rfl (St.drop_less _ _ _ _ hx).1
      · simp at h
  · rw [hall]
    rcases T.step q mo hmo with ⟨hgd', _⟩ | ⟨_, _, hc⟩
    · rw [hgd] at hgd'; simp at hgd'
    · rw [hc, wr_st]; exact T.fresh q q (Nat.le_refl _) hq
theorem TCtx.chainT {ops : Array Oper} (T : TCtx cfg callE ops.size ml masks tr c' key sw cs rs) {t : Nat} (ht : t ≤ ops.size) {mo : MOper} (hmo : ml[t]? = some mo) (hwb : quietB mo.op = false) :
    ∃ t', t' ≤ ops.size ∧ (t' = ops.size ∨ quietAt ml t' = false) ∧ (∀ v, v < ops.size → quietAt ml v = false → (v < t' ↔ v = t ∨ v < t)) ∧
    (guardP (cs t) mo.guard = some false → (∀ k y, (sig ml tr c' key t').get k = some y → (sig ml tr c' key t).get k = some y) ∧ (sig ml tr c' key t').cnt = (sig ml tr c' key t).cnt) ∧
    (guardP (cs t) mo.guard = some true → ∃ st st1, (∀ k y, st.get k = some y → (sig ml tr c' key t).get k = some y) ∧ st.cnt = (sig ml tr c' key t).cnt ∧ evOp cfg callE (cs t).rd st (key + 8 * t) mo.op = some (rs t, st1) ∧
      (∀ k y, (sig ml tr c' key t').get k = some y → st1.get k = some y ∨ (st.get k = none ∧ (sig ml tr c' key t).get k = some y)) ∧ (sig ml tr c' key t').cnt = st1.cnt ∧ (∀ q, q < ops.size → quietAt ml q = true → (st.get (key + 8 * q)).isSome → aheadB masks t q = true)) := by
  have hw : t < ops.size := by rw [← T.len]; exact (List.getElem?_eq_some_iff.1 hmo).1
  have hwq : quietAt ml t = false := by simp [quietAt, hmo, hwb]
  obtain ⟨t', h1, h2, h3, h4⟩ := next_ex ml ops.size (ops.size - (t + 1)) (t + 1) (by omega)
  obtain ⟨a1, a2⟩ := T.along t' (t + 1) h1 h2 h4
  -- what is there behind
  have sigs : ∀ k y, (sig ml tr c' key t').get k = some y → (cs (t + 1)).st.get k = some y ∨ ((cs t).st.get k = none ∧ (sig ml tr c' key t).get k = some y) := by
    intro k y hy
    have made : ∀ q, q < ops.size → t ≤ q → quietAt ml q = true → (cs (q + 1)).st.get (key + 8 * q) = some y → k = key + 8 * q → (cs t).st.get k = none ∧ (sig ml tr c' key t).get k = some y := by
      rintro q q1 q2 q3 q4 rfl
      exact ⟨T.fresh t q q2 q1, by rw [T.sigB q2 q1 q3]; exact q4⟩
    rcases T.sigC h2 hy with h | ⟨q, q1, q2, q3, q4, q5⟩
    · by_cases hm : ∃ m, t + 1 ≤ m ∧ m < t' ∧ k = key + 8 * m
      · obtain ⟨m, m1, m2, rfl⟩ := hm
        right
        refine made m (by omega) (by omega) (h4 m m1 m2) ?_ rfl
        rw [← (T.along t' (m + 1) (by omega) h2 (fun q a b => h4 q (by omega) b)).2 _ (fun q a b => by omega)]
        exact h
      · left
        rw [← a2 k (fun m a b e => hm ⟨m, a, b, e⟩)]
        exact h
    · right
      exact made q q1 (by omega) q3 q5 q4
  refine ⟨t', h2, h3, ?_, fun hgd => ?_, fun hgd => ?_⟩
  · intro v hv hvq
    constructor
    · intro h
      by_cases e : v < t + 1
      · omega
      · have := h4 v (by omega) h
        rw [hvq] at this; simp at this
    · intro h; omega
  · rcases T.step t mo hmo with ⟨hgd', _⟩ | ⟨_, _, hc⟩
    · rw [hgd] at hgd'; simp at hgd'
    · have e : (cs (t + 1)).st = (cs t).st := by rw [hc, wr_st]
      refine ⟨fun k y hy => ?_, ?_⟩
      · rcases sigs k y hy with h | ⟨_, h⟩
        · rw [e] at h; exact T.sigA ht h
        · exact h
      · rw [T.sigN h2, T.sigN ht, a1, e]
  · rcases T.step t mo hmo with ⟨_, st, hev, hc⟩ | ⟨hgd', _⟩
    · have e : (cs (t + 1)).st = st := by rw [hc, wr_st]
      refine ⟨(cs t).st, st, fun k y hy => T.sigA ht hy, (T.sigN ht).symm, hev, ?_, by rw [T.sigN h2, a1, e], ?_⟩
      · intro k y hy
        rw [← e]
        exact sigs k y hy
      · intro q hq hqq hs
        by_cases hqt : q < t
        · rcases (T.dynC hw hwq).2 q hqt hqq with h | h
          · exact h
          · rw [h] at hs; simp at hs
        · rw [T.fresh t q (by omega) hq] at hs; simp at hs
    · rw [hgd] at hgd'; simp at hgd'
end
end Go.Pe
