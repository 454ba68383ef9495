/-
  Segments: what is packed is unpacked, and the other way; heads: plain mathematics. No condition.
-/
import Derived.Test.YtogdkhejfkbnmaaSegH
import Derived.Test.YtogdkhejfkbnmaaSegB
import Derived.Test.YtogdkhejfkbnmaaEvtAs
set_option linter.unusedVariables false
set_option linter.unusedSimpArgs false
namespace Go.Pe
open Go Go.Am Go.RowKit

theorem col_enc {b : List UInt8} {k : Nat} {vs : List Int} (h : ∀ v ∈ vs, in64 v ∧ colOK k v = true) {a : Nat} {rest : List UInt8} (hd : b.drop a = colT 0 vs ++ rest) (ha : a ≤ b.length) (hl : vs.length < 18446744073709551616) : colV b k vs.length vs.length 0 0 true a = some (vs, ((a + (colT 0 vs).length : Nat) : Int)) := by
  rw [colT_enc] at hd ⊢
  have hg := runsT_good vs 0 0
  have hs := runsT_sum vs 0
  have hn := goodR_len hg
  exact colV_enc _ hg hs (by omega) hl hd ha (runsT_dec h 0)
theorem runV_in {k : Nat} : ∀ (j : Nat) {n more : Int} {vs : List Int} {n' : Int}, runV k j n more = some (vs, n') → ∀ v ∈ vs, in64 v ∧ colOK k v = true
  | 0, n, more, vs, n', h => by
    unfold runV at h
    simp only [Option.some.injEq, Prod.mk.injEq] at h
    obtain ⟨rfl, rfl⟩ := h
    simp
  | j + 1, n, more, vs, n', h => by
    unfold runV at h
    split at h
    · rename_i hc
      cases hq : runV k j (IntKind.i64.wrap (n + more)) more with
      | none => rw [hq] at h; simp at h
      | some p =>
        rw [hq] at h
        simp only [Option.map_some, Option.some.injEq, Prod.mk.injEq] at h
        obtain ⟨rfl, rfl⟩ := h
        have ih := runV_in j hq
        intro v hv
        rcases List.mem_cons.1 hv with rfl | hv
        · exact ⟨wrap_in _, hc⟩
        · exact ih v hv
    · simp at h
theorem decR_in {k : Nat} : ∀ {rs : List (Int × Nat)} {n : Int} {vs : List Int}, decR k n rs = some vs → ∀ v ∈ vs, in64 v ∧ colOK k v = true
  | [], n, vs, h => by
    have : some [] = some vs := h
    simp only [Option.some.injEq] at this
    subst this; simp
  | (more, j) :: rs, n, vs, h => by
    unfold decR at h
    cases hr : runV k j n more with
    | none => rw [hr] at h; simp at h
    | some p =>
      obtain ⟨ws, n'⟩ := p
      rw [hr] at h
      simp only at h
      cases hd : decR k n' rs with
      | none => rw [hd] at h; simp at h
      | some us =>
        rw [hd] at h
        simp only [Option.map_some, Option.some.injEq] at h
        subst h
        have h1 := runV_in j hr
        have h2 := decR_in hd
        intro v hv
        rcases List.mem_append.1 hv with hv | hv
        · exact h1 v hv
        · exact h2 v hv
theorem runV_len {k : Nat} : ∀ (j : Nat) {n more : Int} {vs : List Int} {n' : Int}, runV k j n more = some (vs, n') → vs.length = j
  | 0, n, more, vs, n', h => by
    unfold runV at h
    simp only [Option.some.injEq, Prod.mk.injEq] at h
    obtain ⟨rfl, rfl⟩ := h
    rfl
  | j + 1, n, more, vs, n', h => by
    unfold runV at h
    split at h
    · cases hq : runV k j (IntKind.i64.wrap (n + more)) more with
      | none => rw [hq] at h; simp at h
      | some p =>
        rw [hq] at h
        simp only [Option.map_some, Option.some.injEq, Prod.mk.injEq] at h
        obtain ⟨rfl, rfl⟩ := h
        have ih := runV_len j hq
        simp [ih]
    · simp at h
theorem decR_len {k : Nat} : ∀ {rs : List (Int × Nat)} {n : Int} {vs : List Int}, decR k n rs = some vs → vs.length = sumR rs
  | [], n, vs, h => by
    have : some [] = some vs := h
    simp only [Option.some.injEq] at this
    subst this; rfl
  | (more, j) :: rs, n, vs, h => by
    unfold decR at h
    cases hr : runV k j n more with
    | none => rw [hr] at h; simp at h
    | some p =>
      obtain ⟨ws, n'⟩ := p
      rw [hr] at h
      simp only at h
      cases hd : decR k n' rs with
      | none => rw [hd] at h; simp at h
      | some us =>
        rw [hd] at h
        simp only [Option.map_some, Option.some.injEq] at h
        subst h
        have h1 := runV_len j hr
        have h2 := decR_len hd
        rw [List.length_append]
        show _ = j + sumR rs
        omega
theorem col_dec {b : List UInt8} {k n : Nat} {vs : List Int} {a : Nat} {a' : Int} (ha : a ≤ b.length) (h : colV b k n n 0 0 true a = some (vs, a')) : (∀ v ∈ vs, in64 v ∧ colOK k v = true) ∧ vs.length = n ∧ ∃ rest, b.drop a = colT 0 vs ++ rest ∧ a' = ((a + (colT 0 vs).length : Nat) : Int) := by
  obtain ⟨rs, rest, h1, h2, h3, h4, h5⟩ := colV_inv n ha h
  refine ⟨decR_in h3, by rw [decR_len h3, h2], rest, ?_⟩
  rw [colT_enc, runsT_of h1 h3]
  exact ⟨h4, h5⟩
def set5 (v0 v1 v2 v3 v4 : List Int) (L : List Ev) : List Ev := setC 4 (setC 3 (setC 2 (setC 1 (setC 0 L v0) v1) v2) v3) v4
theorem u8_again (o : UInt8) : UInt8.ofNat (((o.toNat : Int)) % 256).toNat = o := by
  have := o.toNat_lt
  exact UInt8.toNat_inj.1 (by rw [UInt8.toNat_ofNat']; omega)
theorem set5_all : ∀ (l : List Ev), set5 (l.map (colG 0)) (l.map (colG 1)) (l.map (colG 2)) (l.map (colG 3)) (l.map (colG 4)) (List.replicate l.length .zero) = l
  | [] => rfl
  | e :: r => by
    have ih := set5_all r
    unfold set5 setC at ih ⊢
    simp only [List.map_cons, List.length_cons, List.replicate_succ, List.zipWith_cons_cons, ih]
    congr 1
    show Ev.mk e.T (UInt8.ofNat (((e.O.toNat : Int)) % 256).toNat) e.J e.A e.B = e
    rw [u8_again]
theorem set5_get : ∀ {n : Nat} {v0 v1 v2 v3 v4 : List Int}, v0.length = n → v1.length = n → v2.length = n → v3.length = n → v4.length = n → (∀ v ∈ v1, 0 ≤ v ∧ v ≤ 255) → (∀ v ∈ v0, in64 v) → (∀ v ∈ v2, in64 v) → (∀ v ∈ v3, in64 v) → (∀ v ∈ v4, in64 v) → ∃ L, set5 v0 v1 v2 v3 v4 (List.replicate n .zero) = L ∧ L.length = n ∧ (∀ e ∈ L, EvIn e) ∧ L.map (colG 0) = v0 ∧ L.map (colG 1) = v1 ∧ L.map (colG 2) = v2 ∧ L.map (colG 3) = v3 ∧ L.map (colG 4) = v4
  | 0, v0, v1, v2, v3, v4, h0, h1, h2, h3, h4, _, _, _, _, _ => by
    rw [List.length_eq_zero_iff] at h0 h1 h2 h3 h4
    subst h0; subst h1; subst h2; subst h3; subst h4
    exact ⟨[], rfl, rfl, by simp, rfl, rfl, rfl, rfl, rfl⟩
  | n + 1, v0, v1, v2, v3, v4, h0, h1, h2, h3, h4, c1, c0, c2, c3, c4 => by
    obtain ⟨x0, w0, rfl⟩ := List.exists_cons_of_length_eq_add_one h0
    obtain ⟨x1, w1, rfl⟩ := List.exists_cons_of_length_eq_add_one h1
    obtain ⟨x2, w2, rfl⟩ := List.exists_cons_of_length_eq_add_one h2
    obtain ⟨x3, w3, rfl⟩ := List.exists_cons_of_length_eq_add_one h3
    obtain ⟨x4, w4, rfl⟩ := List.exists_cons_of_length_eq_add_one h4
    simp only [List.length_cons, Nat.add_right_cancel_iff] at h0 h1 h2 h3 h4
    simp only [List.mem_cons, forall_eq_or_imp] at c0 c1 c2 c3 c4
    obtain ⟨L, e1, e2, e3, e4, e5, e6, e7, e8⟩ := set5_get h0 h1 h2 h3 h4 c1.2 c0.2 c2.2 c3.2 c4.2
    unfold set5 setC at e1 ⊢
    simp only [List.replicate_succ, List.zipWith_cons_cons, e1]
    refine ⟨_, rfl, by simp [e2], ?_, ?_, ?_, ?_, ?_, ?_⟩
    · intro e he
      rcases List.mem_cons.1 he with rfl | he
      · exact ⟨c0.1, c2.1, c3.1, c4.1⟩
      · exact e3 e he
    · rw [List.map_cons, e4]; rfl
    · rw [List.map_cons, e5]
      congr 1
      show (((UInt8.ofNat (x1 % 256).toNat).toNat : Nat) : Int) = x1
      rw [UInt8.toNat_ofNat']; omega
    · rw [List.map_cons, e6]; rfl
    · rw [List.map_cons, e7]; rfl
    · rw [List.map_cons, e8]; rfl
theorem colG_ok {l : List Ev} (h : ∀ e ∈ l, EvIn e) (k : Nat) : ∀ v ∈ l.map (colG k), in64 v ∧ colOK k v = true := by
  intro v hv
  obtain ⟨e, he, rfl⟩ := List.mem_map.1 hv
  obtain ⟨h1, h2, h3, h4⟩ := h e he
  have := e.O.toNat_lt
  match k with
  | 0 => exact ⟨h1, rfl⟩
  | 1 => exact ⟨by unfold in64 colG; simp only; omega, by unfold colOK colG; simp only [Bool.and_eq_true, decide_eq_true_eq]; omega⟩
  | 2 => exact ⟨h2, rfl⟩
  | 3 => exact ⟨h3, rfl⟩
  | k + 4 => exact ⟨h4, rfl⟩
theorem colsD_enc {m : List UInt8} {l : List Ev} (hE : ∀ e ∈ l, EvIn e) (hl : l.length < 18446744073709551616) {a : Nat} {rest : List UInt8} (hd : m.drop a = colsF l 0 ++ rest) (ha : a ≤ m.length) : colsD m (ksF 0) a (List.replicate l.length .zero) = some (l, ((a + (colsF l 0).length : Nat) : Int)) := by
  have hL : ∀ k, (l.map (colG k)).length = l.length := fun k => by simp
  have hc : ∀ (k a : Nat) (rest : List UInt8), m.drop a = colT 0 (l.map (colG k)) ++ rest → a ≤ m.length → colV m k l.length l.length 0 0 true a = some (l.map (colG k), ((a + (colT 0 (l.map (colG k))).length : Nat) : Int)) := by
    intro k a rest h1 h2
    have := col_enc (colG_ok hE k) h1 h2 (by rw [hL]; exact hl)
    rwa [hL] at this
  have hd0 : m.drop a = colT 0 (l.map (colG 0)) ++ (colT 0 (l.map (colG 1)) ++ (colT 0 (l.map (colG 2)) ++ (colT 0 (l.map (colG 3)) ++ (colT 0 (l.map (colG 4)) ++ rest)))) := by
    rw [hd]; unfold colsF; simp only [List.append_assoc]
  have c0 := hc 0 _ _ hd0 ha
  have d1 := drop_more hd0
  have a1 := drop_le hd0 ha
  have c1 := hc 1 _ _ d1 a1
  have d2 := drop_more d1
  have a2 := drop_le d1 a1
  have c2 := hc 2 _ _ d2 a2
  have d3 := drop_more d2
  have a3 := drop_le d2 a2
  have c3 := hc 3 _ _ d3 a3
  have d4 := drop_more d3
  have a4 := drop_le d3 a3
  have c4 := hc 4 _ _ d4 a4
  have s0 : (List.replicate l.length Ev.zero).length = l.length := by simp
  have hs := set5_all l
  unfold set5 at hs
  have sl : ∀ (k : Nat) (L : List Ev), L.length = l.length → (setC k L (l.map (colG k))).length = l.length := fun k L h => by rw [setC_len (by rw [h, hL])]; exact h
  have s1 := sl 0 _ s0
  have s2 := sl 1 _ s1
  have s3 := sl 2 _ s2
  have s4 := sl 3 _ s3
  unfold ksF
  simp only [colsD, s0, c0, s1, c1, s2, c2, s3, c3, s4, c4, hs]
  unfold colsF
  simp only [List.length_append, Nat.add_assoc]
theorem colsD_dec {m : List UInt8} {n a : Nat} {L : List Ev} {a' : Int} (ha : a ≤ m.length) (h : colsD m (ksF 0) a (List.replicate n .zero) = some (L, a')) : L.length = n ∧ (∀ e ∈ L, EvIn e) ∧ ∃ rest, m.drop a = colsF L 0 ++ rest ∧ a' = ((a + (colsF L 0).length : Nat) : Int) := by
  have s0 : (List.replicate n Ev.zero).length = n := by simp
  unfold ksF at h
  simp only [colsD, s0] at h
  cases h0 : colV m 0 n n 0 0 true (a : Int) with
  | none => rw [h0] at h; simp at h
  | some p =>
    obtain ⟨v0, a0⟩ := p
    obtain ⟨i0, l0, r0, d0, rfl⟩ := col_dec ha h0
    rw [h0] at h
    simp only at h
    have s1 : (setC 0 (List.replicate n Ev.zero) v0).length = n := by rw [setC_len (by rw [s0, l0])]; exact s0
    rw [s1] at h
    have b1 := drop_le d0 ha
    have e1 := drop_more d0
    cases h1 : colV m 1 n n 0 0 true ((a + (colT 0 v0).length : Nat) : Int) with
    | none => rw [h1] at h; simp at h
    | some p =>
      obtain ⟨v1, a1⟩ := p
      obtain ⟨i1, l1, r1, d1, rfl⟩ := col_dec b1 h1
      rw [h1] at h
      simp only at h
      have s2 : (setC 1 (setC 0 (List.replicate n Ev.zero) v0) v1).length = n := by rw [setC_len (by rw [s1, l1])]; exact s1
      rw [s2] at h
      have b2 := drop_le d1 b1
      have e2 := drop_more d1
      cases h2 : colV m 2 n n 0 0 true ((a + (colT 0 v0).length + (colT 0 v1).length : Nat) : Int) with
      | none => rw [h2] at h; simp at h
      | some p =>
        obtain ⟨v2, a2⟩ := p
        obtain ⟨i2, l2, r2, d2, rfl⟩ := col_dec b2 h2
        rw [h2] at h
        simp only at h
        have s3 : (setC 2 (setC 1 (setC 0 (List.replicate n Ev.zero) v0) v1) v2).length = n := by rw [setC_len (by rw [s2, l2])]; exact s2
        rw [s3] at h
        have b3 := drop_le d2 b2
        have e3 := drop_more d2
        cases h3 : colV m 3 n n 0 0 true ((a + (colT 0 v0).length + (colT 0 v1).length + (colT 0 v2).length : Nat) : Int) with
        | none => rw [h3] at h; simp at h
        | some p =>
          obtain ⟨v3, a3⟩ := p
          obtain ⟨i3, l3, r3, d3, rfl⟩ := col_dec b3 h3
          rw [h3] at h
          simp only at h
          have s4 : (setC 3 (setC 2 (setC 1 (setC 0 (List.replicate n Ev.zero) v0) v1) v2) v3).length = n := by rw [setC_len (by rw [s3, l3])]; exact s3
          rw [s4] at h
          have b4 := drop_le d3 b3
          have e4 := drop_more d3
          cases h4 : colV m 4 n n 0 0 true ((a + (colT 0 v0).length + (colT 0 v1).length + (colT 0 v2).length + (colT 0 v3).length : Nat) : Int) with
          | none => rw [h4] at h; simp at h
          | some p =>
            obtain ⟨v4, a4⟩ := p
            obtain ⟨i4, l4, r4, d4, rfl⟩ := col_dec b4 h4
            rw [h4] at h
            simp only [Option.some.injEq, Prod.mk.injEq] at h
            obtain ⟨hL, hA⟩ := h
            have i1' : ∀ v ∈ v1, 0 ≤ v ∧ v ≤ 255 := by
              intro v hv
              have := (i1 v hv).2
              unfold colOK at this
              simp only [Bool.and_eq_true, decide_eq_true_eq] at this
              exact this
            obtain ⟨L', f1, f2, f3, f4, f5, f6, f7, f8⟩ := set5_get l0 l1 l2 l3 l4 i1' (fun v hv => (i0 v hv).1) (fun v hv => (i2 v hv).1) (fun v hv => (i3 v hv).1) (fun v hv => (i4 v hv).1)
            have hLL : L = L' := by rw [← hL, ← f1]; rfl
            subst hLL
            refine ⟨f2, f3, r4, ?_, ?_⟩
            · rw [d0, ← e1, d1, ← e2, d2, ← e3, d3, ← e4, d4]
              unfold colsF
              rw [f4, f5, f6, f7, f8]
              simp only [List.append_assoc]
            · rw [← hA]
              unfold colsF
              rw [f4, f5, f6, f7, f8]
              simp only [List.length_append, Nat.add_assoc]
theorem amd1_len : amd1.length = 4 := rfl
theorem denseB_split (n : Nat) (l : List Ev) : denseB n l = amd1 ++ (varint n ++ (varint l.length ++ colsF l 0)) := by unfold denseB; simp only [List.append_assoc]
theorem denseR_B {n : Nat} {l : List Ev} (hn : n ≤ 4611686018427387904) (h1 : 1 ≤ l.length) (h2 : l.length ≤ 1048576) (hE : ∀ e ∈ l, EvIn e) : denseR (denseB n l) = some (n, l) := by
  have hs := denseB_split n l
  have hd0 : (denseB n l).drop 4 = varint n ++ (varint l.length ++ colsF l 0) := by rw [hs]; rfl
  have ha0 : 4 ≤ (denseB n l).length := by rw [hs, List.length_append, amd1_len]; omega
  have g1 := getU_varint hd0 ha0 (by omega : n < 18446744073709551616)
  have d1 := drop_more hd0
  have a1 := drop_le hd0 ha0
  have g2 := getU_varint d1 a1 (by omega : l.length < 18446744073709551616)
  have d2 := drop_more d1
  have a2 := drop_le d1 a1
  have d2' : (denseB n l).drop (4 + (varint n).length + (varint l.length).length) = colsF l 0 ++ [] := by rw [d2, List.append_nil]
  have c := colsD_enc hE (by omega) d2' a2
  have ht : (denseB n l).take 4 = amd1 := by rw [hs]; rfl
  unfold denseR
  rw [ht, if_neg (by simp)]
  have g1' : getU (denseB n l) 4 = (n, ((4 + (varint n).length : Nat) : Int), 0) := by
    rw [show (4 : Int) = ((4 : Nat) : Int) from rfl, g1, Int.natCast_add]
  have g2' : getU (denseB n l) ((4 + (varint n).length : Nat) : Int) = (l.length, ((4 + (varint n).length + (varint l.length).length : Nat) : Int), 0) := by
    rw [g2]; simp only [Int.natCast_add]
  rw [g1']
  simp only []
  rw [if_neg (by omega), g2']
  simp only []
  rw [if_neg (by omega), c]
  simp only []
  have hlen : (denseB n l).length = 4 + (varint n).length + (varint l.length).length + (colsF l 0).length := by
    rw [hs]; simp only [List.length_append, amd1_len]; omega
  rw [if_neg (by omega)]
theorem unpackR_B {n : Nat} {l : List Ev} (hn : n ≤ 4611686018427387904) (h1 : 1 ≤ l.length) (h2 : l.length ≤ 1048576) (hE : ∀ e ∈ l, EvIn e) : unpackR (packB n l) = .inl (n, l) := by
  have hl : (packB n l).length = (denseB n l).length + 4 := sealB_len _
  have ht : (packB n l).take ((packB n l).length - 4) = denseB n l := by
    rw [hl, Nat.add_sub_cancel]
    unfold packB sealB
    rw [List.take_left]
  unfold unpackR
  rw [if_neg (by omega), ht, if_pos (show sealB (denseB n l) = packB n l from rfl), denseR_B hn h1 h2 hE]
theorem denseR_inv {m : List UInt8} {n : Nat} {L : List Ev} (h : denseR m = some (n, L)) : m = denseB n L ∧ n ≤ 4611686018427387904 ∧ 1 ≤ L.length ∧ L.length ≤ 1048576 ∧ ∀ e ∈ L, EvIn e := by
  unfold denseR at h
  by_cases c0 : (m.take 4 == amd1) = false
  · rw [if_pos c0] at h; simp at h
  rw [if_neg c0] at h
  have c0' : m.take 4 = amd1 := by simpa using c0
  by_cases c1 : (getU m 4).2.2 ≠ 0 ∨ 4611686018427387904 < (getU m 4).1
  · rw [if_pos c1] at h; simp at h
  rw [if_neg c1] at h
  have c1' : (getU m 4).2.2 = 0 := by
    cases Decidable.em ((getU m 4).2.2 = 0) with
    | inl h => exact h
    | inr h => exact absurd (Or.inl h) c1
  have c1'' : (getU m 4).1 ≤ 4611686018427387904 := by
    have : ¬ 4611686018427387904 < (getU m 4).1 := fun e => c1 (Or.inr e)
    omega
  obtain ⟨_, q1, r1, d1, e1, l1⟩ := getU_ok c1'
  generalize getU m 4 = U at h d1 e1 l1 c1 c1' c1''
  by_cases c2 : (getU m U.2.1).2.2 ≠ 0 ∨ (getU m U.2.1).1 < 1 ∨ 1048576 < (getU m U.2.1).1
  · rw [if_pos c2] at h; simp at h
  rw [if_neg c2] at h
  have c21 : (getU m U.2.1).2.2 = 0 := by
    cases Decidable.em ((getU m U.2.1).2.2 = 0) with
    | inl h => exact h
    | inr h => exact absurd (Or.inl h) c2
  have c22 : ¬ (getU m U.2.1).1 < 1 := fun e => c2 (Or.inr (Or.inl e))
  have c23 : ¬ 1048576 < (getU m U.2.1).1 := fun e => c2 (Or.inr (Or.inr e))
  obtain ⟨_, q2, r2, d2, e2, l2⟩ := getU_ok c21
  generalize getU m U.2.1 = V at h d2 e2 l2 c2 c21 c22 c23
  have k4 : (4 : Int).toNat = 4 := rfl
  rw [k4] at d1
  have k1 : U.2.1.toNat = 4 + (varint U.1).length := by omega
  rw [k1] at d2
  have k2 : V.2.1 = ((4 + (varint U.1).length + (varint V.1).length : Nat) : Int) := by omega
  rw [k2] at h
  have m4 : 4 ≤ m.length := by omega
  have a1 := drop_le d1 m4
  have a2 := drop_le d2 a1
  cases hc : colsD m (ksF 0) ((4 + (varint U.1).length + (varint V.1).length : Nat) : Int) (List.replicate V.1 .zero) with
  | none => rw [hc] at h; simp at h
  | some p =>
    obtain ⟨L', a'⟩ := p
    rw [hc] at h
    simp only at h
    obtain ⟨f1, f2, rest, f3, rfl⟩ := colsD_dec a2 hc
    by_cases c3 : (((4 + (varint U.1).length + (varint V.1).length + (colsF L' 0).length : Nat) : Int)) < (m.length : Int)
    · rw [if_pos c3] at h; simp at h
    rw [if_neg c3] at h
    simp only [Option.some.injEq, Prod.mk.injEq] at h
    obtain ⟨rfl, rfl⟩ := h
    have hr : rest = [] := by
      have := congrArg List.length f3
      rw [List.length_append, List.length_drop] at this
      exact List.length_eq_zero_iff.1 (by omega)
    subst hr
    refine ⟨?_, c1'', by omega, by omega, f2⟩
    have j1 := drop_more d1
    have j2 := drop_more d2
    rw [denseB_split, f1, ← List.take_append_drop 4 m, c0', d1, ← j1, d2, ← j2, f3, List.append_nil]
theorem unpackR_inv {b : List UInt8} {n : Nat} {L : List Ev} (h : unpackR b = .inl (n, L)) : b = packB n L ∧ n ≤ 4611686018427387904 ∧ 1 ≤ L.length ∧ L.length ≤ 1048576 ∧ ∀ e ∈ L, EvIn e := by
  unfold unpackR at h
  by_cases c0 : b.length < 4
  · rw [if_pos c0] at h; simp at h
  rw [if_neg c0] at h
  by_cases c1 : sealB (b.take (b.length - 4)) = b
  · rw [if_pos c1] at h
    cases hd : denseR (b.take (b.length - 4)) with
    | none => rw [hd] at h; simp at h
    | some p =>
      rw [hd] at h
      simp only [Sum.inl.injEq] at h
      subst h
      obtain ⟨h1, h2⟩ := denseR_inv hd
      refine ⟨?_, h2⟩
      unfold packB
      rw [← h1, c1]
  · rw [if_neg c1] at h; simp at h
theorem headR_B {n : Nat} (hn : n ≤ 4611686018427387904) (rest : List UInt8) : headR (headB n ++ rest) = (n, (((headB n).length : Nat) : Int), 0) := by
  have hs : headB n ++ rest = ams1 ++ (varint n ++ (be4 (crc (ams1 ++ varint n)) ++ rest)) := by
    unfold headB sealB; simp only [List.append_assoc]
  have hhl : (headB n).length = 4 + (varint n).length + 4 := by
    unfold headB; rw [sealB_len, List.length_append]; rfl
  have hd0 : (headB n ++ rest).drop 4 = varint n ++ (be4 (crc (ams1 ++ varint n)) ++ rest) := by rw [hs]; rfl
  have ha0 : 4 ≤ (headB n ++ rest).length := by rw [List.length_append]; omega
  have g1 := getU_varint hd0 ha0 (by omega : n < 18446744073709551616)
  have g1' : getU (headB n ++ rest) 4 = (n, ((4 + (varint n).length : Nat) : Int), 0) := by
    rw [show (4 : Int) = ((4 : Nat) : Int) from rfl, g1, Int.natCast_add]
  have ht : (headB n ++ rest).take 4 = ams1 := by rw [hs]; rfl
  have hta : (headB n ++ rest).take (4 + (varint n).length) = ams1 ++ varint n := by
    rw [hs, ← List.append_assoc]
    exact List.take_left' (by rw [List.length_append]; rfl)
  have htb : (headB n ++ rest).take (4 + (varint n).length + 4) = headB n := List.take_left' hhl
  unfold headR
  rw [ht, g1']
  simp only []
  have hle : (((headB n ++ rest).length : Nat) : Int) = (((headB n).length + rest.length : Nat) : Int) := by rw [List.length_append]
  rw [if_neg (by decide), if_neg (by omega), if_neg (by omega), if_neg (by simp), if_neg (by rw [hle, hhl]; omega)]
  rw [Int.toNat_natCast, hta, htb, if_pos (show sealB (ams1 ++ varint n) = headB n from rfl), hhl]
  simp only [Prod.mk.injEq, true_and, and_true]
  omega
theorem head_inj {a b : Nat} (ha : a < 18446744073709551616) (hb : b < 18446744073709551616) (h : headB a = headB b) : a = b := by
  unfold headB sealB at h
  simp only [List.append_assoc] at h
  exact (var_inj ha hb (List.append_cancel_left h)).1
theorem pack_inj {a b : Nat} {l m : List Ev} (ha : a < 18446744073709551616) (hb : b < 18446744073709551616) (h : packB a l = packB b m) : a = b := by
  unfold packB sealB denseB at h
  simp only [List.append_assoc] at h
  exact (var_inj ha hb (List.append_cancel_left h)).1
end Go.Pe
