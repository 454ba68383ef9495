/-
  Regions in an open order where some write: two stores that change places. No condition; nothing of the program.
-/
import Derived.Test.YtaepgkghgcchnaaPeCl
set_option linter.unusedVariables false
set_option linter.unusedSimpArgs false
namespace Go.Pe
open Go Go.Am Go.RowKit

/-- a store, and what it changes -/
theorem store_at {st st' : St} {n : Nat} {a v : PV} {k off : Nat} (h : storeP st n a v = some st') (ha : a = .ptr k off) : ∃ y o, st.get k = some y ∧ st' = st.put k (some o) ∧ ∀ st2 : St, st2.get k = st.get k → storeP st2 n a v = some (st2.put k (some o)) := by
  subst ha
  unfold storeP at h
  simp only [] at h
  split at h
  · rename_i cs hg
    split at h
    · rename_i hc
      simp only [Option.some.injEq] at h
      refine ⟨_, _, hg, h.symm, fun st2 h2 => ?_⟩
      unfold storeP
      simp only [h2, hg]
      rw [if_pos hc]
    · simp at h
  · simp at h
theorem storeAt_some {ml : List MOper} {i n : Nat} {a x : Arg} (h : storeAt ml i = some (n, a, x)) : ∃ d, ml[i]? = some { dst := d, op := .store n a x, guard := none } := by
  unfold storeAt at h
  split at h
  · rename_i d n' a' x' hm
    simp only [Option.some.injEq, Prod.mk.injEq] at h
    obtain ⟨rfl, rfl, rfl⟩ := h
    exact ⟨d, hm⟩
  · simp at h
section
variable {cfg : Cfg} {callE : CallE} {N : Nat} {ml : List MOper} {masks : List Nat} {tr : List (Loc × PV)} {c' : Loc} {key : Nat} {sw : Option (Nat × Nat)} {cs : Nat → Loc} {rs : Nat → PV}
theorem TCtx.storeI (T : TCtx cfg callE N ml masks tr c' key sw cs rs) {i ki : Nat} (hi : i < N) (h : storeKey ml tr i = some ki) : ∃ n a x d y o, storeAt ml i = some (n, a, x) ∧ ml[i]? = some { dst := d, op := .store n a x, guard := none } ∧ (cs i).st.get ki = some y ∧ (cs (i + 1)).st = (cs i).st.put ki (some o) ∧ rs i = .tup [] ∧
    ∀ st2 : St, st2.get ki = (cs i).st.get ki → storeP st2 n ((cs i).rd a) ((cs i).rd x) = some (st2.put ki (some o)) := by
  unfold storeKey at h
  rw [T.trc i hi] at h
  split at h
  · rename_i n a x c r hsa htr
    simp only [Option.some.injEq, Prod.mk.injEq] at htr
    obtain ⟨rfl, rfl⟩ := htr
    split at h
    · rename_i k off hk
      simp only [Option.some.injEq] at h
      subst h
      obtain ⟨d, hm⟩ := storeAt_some hsa
      rcases T.step i _ hm with ⟨_, st, hev, hc⟩ | ⟨hgd', _, _⟩
      · simp only [evOp, Option.map_eq_some_iff, Prod.mk.injEq] at hev
        obtain ⟨st', h1, h2, rfl⟩ := hev
        obtain ⟨y, o, h3, h4, h5⟩ := store_at h1 hk
        exact ⟨n, a, x, d, y, o, hsa, hm, h3, by rw [hc, wr_st]; exact h4, h2.symm, h5⟩
      · simp [guardP] at hgd'
    · simp at h
  · simp at h
/-- behind both, however they came -/
theorem TCtx.swap (T : TCtx cfg callE N ml masks tr c' key sw cs rs) {i j ki kj : Nat} (hij : i < j) (hj : j < N) (hiq : quietAt ml i = false) (hjq : quietAt ml j = false) (hlast : ∀ w, w < N → quietAt ml w = false → w = j ∨ w ≤ i) (h1 : storeKey ml tr i = some ki) (h2 : storeKey ml tr j = some kj) (hne : ki ≠ kj) :
    ∃ n a x d n' a' x' d' oi oj, ml[i]? = some { dst := d, op := .store n a x, guard := none } ∧ ml[j]? = some { dst := d', op := .store n' a' x', guard := none } ∧ rs i = .tup [] ∧ rs j = .tup [] ∧
      storeP (sig ml tr c' key i) n' ((cs j).rd a') ((cs j).rd x') = some (swapSt ml tr c' key i j) ∧ swapSt ml tr c' key i j = (sig ml tr c' key i).put kj (some oj) ∧
      storeP (swapSt ml tr c' key i j) n ((cs i).rd a) ((cs i).rd x) = some ((swapSt ml tr c' key i j).put ki (some oi)) ∧
      (∀ k y, (sig ml tr c' key N).get k = some y → ((swapSt ml tr c' key i j).put ki (some oi)).get k = some y) ∧ (sig ml tr c' key N).cnt = (sig ml tr c' key i).cnt := by
  obtain ⟨n, a, x, d, yi, oi, a1, a2, a3, a4, a5, a6⟩ := T.storeI (by omega) h1
  obtain ⟨n', a', x', d', yj, oj, b1, b2, b3, b4, b5, b6⟩ := T.storeI hj h2
  have q1 : ∀ m, i + 1 ≤ m → m < j → quietAt ml m = true := by
    intro m m1 m2
    cases h : quietAt ml m with
    | true => rfl
    | false => rcases hlast m (by omega) h with e | e <;> omega
  have q2 : ∀ m, j + 1 ≤ m → m < N → quietAt ml m = true := by
    intro m m1 m2
    cases h : quietAt ml m with
    | true => rfl
    | false => rcases hlast m m2 h with e | e <;> omega
  obtain ⟨c1, d1⟩ := T.along j (i + 1) (by omega) (by omega) q1
  obtain ⟨c2, d2⟩ := T.along N (j + 1) (by omega) (Nat.le_refl _) q2
  have hki : ∀ m, i ≤ m → m < N → ki ≠ key + 8 * m := by
    rintro m m1 m2 rfl
    rw [T.fresh i m m1 m2] at a3; simp at a3
  have hkj : ∀ m, j ≤ m → m < N → kj ≠ key + 8 * m := by
    rintro m m1 m2 rfl
    rw [T.fresh j m m1 m2] at b3; simp at b3
  -- ahead of 'j', at another place than the first
  have mid : ∀ k y, k ≠ ki → (cs j).st.get k = some y → (sig ml tr c' key i).get k = some y := by
    intro k y hk hy
    by_cases hm : ∃ m, i + 1 ≤ m ∧ m < j ∧ k = key + 8 * m
    · obtain ⟨m, m1, m2, rfl⟩ := hm
      rw [T.sigB (by omega) (by omega) (q1 m m1 m2)]
      rw [(T.along j (m + 1) (by omega) (by omega) (fun q u v => q1 q (by omega) v)).2 _ (fun q u v => by omega)] at hy
      exact hy
    · rw [d1 k (fun m u v e => hm ⟨m, u, v, e⟩), a4, St.get_put_ne (fun e => hk e.symm)] at hy
      exact T.sigA (by omega) hy
  have gj : (sig ml tr c' key i).get kj = (cs j).st.get kj := by
    rw [mid kj yj (fun e => hne e.symm) b3, b3]
  have gi : (sig ml tr c' key i).get ki = (cs i).st.get ki := by
    rw [T.sigA (by omega) a3, a3]
  have hb := b6 _ gj
  have hsw : swapSt ml tr c' key i j = (sig ml tr c' key i).put kj (some oj) := by
    unfold swapSt
    rw [b1, T.trc j hj]
    simp only []
    rw [hb]; rfl
  have ha := a6 (swapSt ml tr c' key i j) (by rw [hsw, St.get_put_ne (fun e => hne e.symm)]; exact gi)
  refine ⟨n, a, x, d, n', a', x', d', oi, oj, a2, b2, a5, b5, by rw [hsw]; exact hb, hsw, ha, ?_, ?_⟩
  · intro k y hy
    have hN : (cs N).st.get k = some y := by
      rcases T.sigC (Nat.le_refl _) hy with h | ⟨q, h3, h4, _⟩
      · exact h
      · omega
    have rk : True := St.get_range a3
    have rj : True := St.get_range b3
    have rest : k ≠ kj → (cs j).st.get k = some y → ((swapSt ml tr c' key i j).put ki (some oi)).get k = some y := by
      intro hk hy
      by_cases e : k = ki
      · subst e
        rw [d1 k (fun m u v e => hki m (by omega) (by omega) e), a4, St.get_put_same _ rk] at hy
        rw [St.get_put_same _ rk]; exact hy
      · rw [St.get_put_ne (fun h => e h.symm), hsw, St.get_put_ne (fun h => hk h.symm)]
        exact mid k y e hy
    by_cases hm : ∃ m, j + 1 ≤ m ∧ m < N ∧ k = key + 8 * m
    · obtain ⟨m, m1, m2, rfl⟩ := hm
      rw [(T.along N (m + 1) (by omega) (Nat.le_refl _) (fun q u v => q2 q (by omega) v)).2 _ (fun q u v => by omega)] at hN
      rw [St.get_put_ne (hki m (by omega) m2), hsw, St.get_put_ne (hkj m (by omega) m2), T.sigB (by omega) m2 (q2 m m1 m2)]
      exact hN
    · rw [d2 k (fun m u v e => hm ⟨m, u, v, e⟩), b4] at hN
      by_cases e : k = kj
      · subst e
        rw [St.get_put_same _ rj] at hN
        rw [St.get_put_ne hne, hsw, St.get_put_same _ rj]; exact hN
      · rw [St.get_put_ne (fun h => e h.symm)] at hN
        exact rest e hN
  · rw [T.sigN (Nat.le_refl _), T.sigN (by omega), c2, b4, St.put_cnt, c1, a4, St.put_cnt]
end
section
variable {cfg : Cfg} {callE : CallE} {ml : List MOper} {masks : List Nat} {tr : List (Loc × PV)} {c' : Loc} {key : Nat} {sw : Option (Nat × Nat)} {cs : Nat → Loc} {rs : Nat → PV}
/-- the states: so many of those that write; or all but the last but one -/
abbrev PosX (N : Nat) (ml : List MOper) (sw : Option (Nat × Nat)) := { x : Option Nat // match x with | some t => t ≤ N ∧ (t = N ∨ quietAt ml t = false) | none => sw.isSome = true }
def dnX (N : Nat) (ml : List MOper) (sw : Option (Nat × Nat)) (x : PosX N ml sw) (w : Nat) : Bool := match x.1 with
  | some t => decide (w < t)
  | none => match sw with
    | some (i, _) => !decide (w = i)
    | none => true
noncomputable def sgX (N : Nat) (ml : List MOper) (tr : List (Loc × PV)) (c' : Loc) (key : Nat) (sw : Option (Nat × Nat)) (x : PosX N ml sw) : St := match x.1 with
  | some t => sig ml tr c' key t
  | none => match sw with
    | some (i, j) => swapSt ml tr c' key i j
    | none => sig ml tr c' key 0
theorem posSys {ops : Array Oper} (T : TCtx cfg callE ops.size ml masks tr c' key sw cs rs) (hok : swapOK ml sw = true) (hdy : swapDyn cfg callE ml masks tr c' key sw = true) :
    PosSys cfg callE ops ml (fun i j => aheadB masks i j = true) key cs rs (PosX ops.size ml sw) (dnX ops.size ml sw) (sgX ops.size ml tr c' key sw) := by
  refine ⟨?_, ?_, ?_⟩
  · rintro ⟨x, hx⟩ q mo hmo hqb ⟨hm1, hm2⟩
    cases x with
    | some t =>
      simp only [dnX, decide_eq_true_eq, decide_eq_false_iff_not] at hm1 hm2
      exact T.quietT hx.1 hx.2 hmo hqb hm1 hm2
    | none =>
      cases sw with
      | none => simp at hx
      | some ij =>
        obtain ⟨i, j⟩ := ij
        simp only [dnX, sgX, Bool.not_eq_true', decide_eq_false_iff_not, Bool.not_eq_false', decide_eq_true_eq] at hm1 hm2 ⊢
        have hq : q < ops.size := by rw [← T.len]; exact (List.getElem?_eq_some_iff.1 hmo).1
        have hqq : quietAt ml q = true := by simp [quietAt, hmo, hqb]
        simp only [swapOK, Bool.and_eq_true, decide_eq_true_eq, Bool.not_eq_true'] at hok
        obtain ⟨⟨⟨⟨⟨⟨o1, o2⟩, o3⟩, o4⟩, o5⟩, o6⟩, o7⟩ := hok
        unfold swapDyn at hdy
        simp only [] at hdy
        split at hdy
        · rename_i ki kj hki hkj
          simp only [Bool.and_eq_true, Bool.not_eq_true', decide_eq_false_iff_not] at hdy
          obtain ⟨hne, hdy⟩ := hdy
          have h := List.all_eq_true.1 hdy q (by rw [T.len]; simpa using hq)
          rw [hqq] at h
          simp only [Bool.not_true, Bool.false_or, Bool.and_eq_true, Bool.or_eq_true, Bool.not_eq_true'] at h
          obtain ⟨_, h⟩ := h
          have hmay : mayS ml masks i q = true := by
            unfold mayS
            simp only [Bool.and_eq_true, Bool.not_eq_true']
            refine ⟨?_, List.all_eq_true.2 fun w hw => ?_⟩
            · cases hA : aheadB masks q i with
              | false => rfl
              | true => exact absurd rfl (hm1 i (by rw [T.len] at o2; omega) o3 hA)
            · have hw' : w < ops.size := by rw [← T.len]; simpa using hw
              cases hwq : quietAt ml w with
              | true => rfl
              | false =>
                simp only [Bool.false_or, Bool.or_eq_true, decide_eq_true_eq, Bool.not_eq_true']
                cases hA : aheadB masks w q with
                | false => exact .inr rfl
                | true => exact .inl (hm2 w hw' hwq hA)
          rcases h with h | h
          · rw [hmay] at h; simp at h
          · unfold againS at h
            rw [hmo, T.trc q hq] at h
            simp only [Bool.and_eq_true] at h
            obtain ⟨h0, h⟩ := h
            have e0 := PObj.same_eq h0
            rw [T.stAt (by omega)] at e0
            refine ⟨fun hgd => ?_, fun hgd => ?_⟩
            · rw [hgd] at h
              simp only [] at h
              split at h
              · rename_i r' st' hev
                simp only [Bool.and_eq_true] at h
                have e1 := PV.same_eq _ _ _ h.1
                have e2 := PObj.same_eq h.2
                rw [T.stAt (by omega)] at e2
                refine ⟨(swapSt ml tr c' key i j).put (key + 8 * q) none, st', fun k y hy => (St.drop_less _ _ k y hy).2, ?_, rfl, by rw [hev, e1], by rw [e0, e2]⟩
                cases hx : ((swapSt ml tr c' key i j).put (key + 8 * q) none).get (key + 8 * q) with
                | none => rfl
                | some y => exact absurd rfl (St.drop_less _ _ _ _ hx).1
              · simp at h
            · rw [e0]
              rcases T.step q mo hmo with ⟨hgd', _⟩ | ⟨_, _, hc⟩
              · rw [hgd] at hgd'; simp at hgd'
              · rw [hc, wr_st]; exact T.fresh q q (Nat.le_refl _) hq
        · simp at hdy
  · rintro ⟨x, hx⟩ w mo hmo hwb hdn ⟨hm1, hm2⟩
    have hw : w < ops.size := by rw [← T.len]; exact (List.getElem?_eq_some_iff.1 hmo).1
    have hwq : quietAt ml w = false := by simp [quietAt, hmo, hwb]
    have swd : ∀ i j, sw = some (i, j) → i < j ∧ j < ops.size ∧ quietAt ml i = false ∧ quietAt ml j = false ∧ (∀ w, w < ops.size → quietAt ml w = false → w = j ∨ w ≤ i) ∧ ∃ ki kj, storeKey ml tr i = some ki ∧ storeKey ml tr j = some kj ∧ ki ≠ kj ∧ ∀ q, q < ops.size → quietAt ml q = true →
        (aheadB masks j q = true ∨ (sig ml tr c' key i).get (key + 8 * q) = none) ∧ (aheadB masks i q = true ∨ (swapSt ml tr c' key i j).get (key + 8 * q) = none) := by
      rintro i j rfl
      simp only [swapOK, Bool.and_eq_true, decide_eq_true_eq, Bool.not_eq_true'] at hok
      obtain ⟨⟨⟨⟨⟨⟨o1, o2⟩, o3⟩, o4⟩, o5⟩, o6⟩, o7⟩ := hok
      unfold swapDyn at hdy
      simp only [] at hdy
      split at hdy
      · rename_i ki kj hki hkj
        simp only [Bool.and_eq_true, Bool.not_eq_true', decide_eq_false_iff_not] at hdy
        obtain ⟨hne, hdy⟩ := hdy
        refine ⟨o1, by rw [← T.len]; exact o2, o3, o4, ?_, ki, kj, hki, hkj, hne, ?_⟩
        · intro v hv hvq
          have h := List.all_eq_true.1 o7 v (by rw [T.len]; simpa using hv)
          rw [hvq] at h
          simpa using h
        · intro q hq hqq
          have h := List.all_eq_true.1 hdy q (by rw [T.len]; simpa using hq)
          rw [hqq] at h
          simp only [Bool.not_true, Bool.false_or, Bool.and_eq_true, Bool.or_eq_true, Bool.not_eq_true'] at h
          exact ⟨by simpa using h.1.1, by simpa using h.1.2⟩
      · simp at hdy
    cases x with
    | some t =>
      simp only [dnX, decide_eq_true_eq, decide_eq_false_iff_not] at hdn hm1 hm2
      by_cases htw : t = w
      · subst htw
        obtain ⟨t', h1, h2, h3, h4, h5⟩ := T.chainT hx.1 hmo hwb
        refine ⟨⟨some t', h1, h2⟩, ?_, h4, h5⟩
        intro v hv hvq
        simp only [dnX, decide_eq_true_eq]
        exact h3 v hv hvq
      · have htq : quietAt ml t = false := by
          rcases hx.2 with e | e
          · omega
          · exact e
        have hsw : sw = some (t, w) := by
          rcases T.tot t w (by omega) hw htq hwq with h | h
          · have := hm1 t (by omega) htq h
            omega
          · exact h
        obtain ⟨s1, s2, s3, s4, s5, ki, kj, s6, s7, s8, s9⟩ := swd t w hsw
        obtain ⟨n, a, x, d, n', a', x', d', oi, oj, u1, u2, u3, u4, u5, u6, u7, u8, u9⟩ := T.swap s1 s2 s3 s4 s5 s6 s7 s8
        rw [hmo] at u2
        simp only [Option.some.injEq] at u2
        subst u2
        subst hsw
        refine ⟨⟨none, rfl⟩, ?_, fun h => by simp [guardP] at h, fun _ => ⟨sig ml tr c' key t, swapSt ml tr c' key t w, fun k y h => h, rfl, ?_, fun k y h => .inl h, rfl, ?_⟩⟩
        · intro v hv hvq
          simp only [dnX, Bool.not_eq_true', decide_eq_false_iff_not, decide_eq_true_eq]
          rcases s5 v hv hvq with e | e
          · subst e; constructor
            · intro _; exact .inl rfl
            · intro _; omega
          · constructor
            · intro h; right; omega
            · rintro (h | h) <;> omega
        · simp only [evOp]
          rw [u5, u4]; rfl
        · intro q hq hqq hs
          rcases (s9 q hq hqq).1 with h | h
          · exact h
          · rw [h] at hs; simp at hs
    | none =>
      cases sw with
      | none => simp at hx
      | some ij =>
        obtain ⟨i, j⟩ := ij
        simp only [dnX, Bool.not_eq_false', decide_eq_true_eq] at hdn
        subst hdn
        obtain ⟨s1, s2, s3, s4, s5, ki, kj, s6, s7, s8, s9⟩ := swd w j rfl
        obtain ⟨n, a, x, d, n', a', x', d', oi, oj, u1, u2, u3, u4, u5, u6, u7, u8, u9⟩ := T.swap s1 s2 s3 s4 s5 s6 s7 s8
        rw [hmo] at u1
        simp only [Option.some.injEq] at u1
        subst u1
        refine ⟨⟨some ops.size, Nat.le_refl _, .inl rfl⟩, ?_, fun h => by simp [guardP] at h, fun _ => ⟨swapSt ml tr c' key w j, (swapSt ml tr c' key w j).put ki (some oi), fun k y h => h, rfl, ?_, fun k y h => .inl (u8 k y h), ?_, ?_⟩⟩
        · intro v hv hvq
          simp only [dnX, Bool.not_eq_true', decide_eq_false_iff_not, decide_eq_true_eq]
          constructor
          · intro _
            by_cases e : v = w
            · exact .inl e
            · exact .inr e
          · intro _; exact hv
        · simp only [evOp]
          rw [u7, u3]; rfl
        · show (sig ml tr c' key ops.size).cnt = _
          rw [u9, St.put_cnt, u6, St.put_cnt]
        · intro q hq hqq hs
          rcases (s9 q hq hqq).2 with h | h
          · exact h
          · rw [h] at hs; simp at hs
  · rintro ⟨x, hx⟩ hall
    cases x with
    | some t =>
      have htN : t = ops.size := by
        rcases hx.2 with e | e
        · exact e
        · by_cases e2 : t < ops.size
          · have := hall t e2 e
            simp [dnX] at this
          · have := hx.1; omega
      subst htN
      exact ⟨fun k y hy => T.sigA (Nat.le_refl _) hy, (T.sigN (Nat.le_refl _)).symm⟩
    | none =>
      cases sw with
      | none => simp at hx
      | some ij =>
        obtain ⟨i, j⟩ := ij
        simp only [swapOK, Bool.and_eq_true, decide_eq_true_eq, Bool.not_eq_true'] at hok
        obtain ⟨⟨⟨⟨⟨⟨o1, o2⟩, o3⟩, o4⟩, o5⟩, o6⟩, o7⟩ := hok
        have := hall i (by rw [T.len] at o2; omega) o3
        simp [dnX] at this
end
end Go.Pe
