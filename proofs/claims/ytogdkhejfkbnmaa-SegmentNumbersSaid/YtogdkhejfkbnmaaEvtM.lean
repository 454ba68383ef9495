/-
  Events: what is read was framed so. Plain mathematics. No condition.
-/
import Derived.Test.YtogdkhejfkbnmaaEvtL
set_option linter.unusedVariables false
set_option linter.unusedSimpArgs false
namespace Go.Pe
open Go Go.Am Go.RowKit

theorem getSt_bad {xs : List UInt8} {x : Int} {s : Int × Int} (h : (getSt xs x s).2.2 = 0) : s.2 = 0 := by
  unfold getSt at h
  split at h
  · assumption
  · exact h
theorem getSt_inv {xs : List UInt8} {x : Int} {s : Int × Int} (h : (getSt xs x s).2.2 = 0) : ∃ (a : Nat) (rest : List UInt8), s.1 = a ∧ a ≤ xs.length ∧ in64 (getSt xs x s).1 ∧ xs.drop a = dInt x (getSt xs x s).1 ++ rest ∧ (getSt xs x s).2.1 = ((a + (dInt x (getSt xs x s).1).length : Nat) : Int) := by
  have h0 := getSt_bad h
  unfold getSt at h ⊢
  rw [if_pos h0] at h ⊢
  unfold getI at h ⊢
  by_cases hu : (getU xs s.1).2.2 = 0
  · rw [if_pos hu]
    obtain ⟨ha, hal, rest, hd, hn, _⟩ := getU_ok hu
    have hv := getU_lt xs s.1
    simp only
    have hw := wrap_forth (x := x) (in64_openI hv)
    have hdi : dInt x (IntKind.i64.wrap (x + openI (getU xs s.1).1)) = varint (getU xs s.1).1 := by
      unfold dInt
      rw [hw, foldN_openI]
    refine ⟨s.1.toNat, rest, by omega, by omega, wrap_in _, by rw [hdi]; exact hd, ?_⟩
    rw [hdi, hn]
    omega
  · rw [if_neg hu] at h
    exact absurd h hu
theorem getE_inv {xs : List UInt8} {at0 : Int} {x : Ev} (h : (getE xs at0 x).2.2 = 0) : ∃ (a : Nat) (rest : List UInt8), at0 = a ∧ a ≤ xs.length ∧ EvIn (getE xs at0 x).1 ∧ xs.drop a = pt x (getE xs at0 x).1 ++ rest ∧ (getE xs at0 x).2.1 = ((a + (pt x (getE xs at0 x).1).length : Nat) : Int) := by
  unfold getE at h ⊢
  by_cases c1 : at0 < 0 ∨ (xs.length : Int) < at0
  · rw [if_pos c1] at h; simp at h
  rw [if_neg c1] at h ⊢
  by_cases c2 : at0 = xs.length
  · rw [if_pos c2] at h; simp at h
  rw [if_neg c2] at h ⊢
  simp only at h ⊢
  by_cases c3 : (getSt xs x.B (getSt xs x.A (getSt xs x.J (getSt xs x.T (at0 + 1, 0)).2).2).2).2.2 = 0
  · rw [if_pos c3]
    have b3 := getSt_bad c3
    have b2 := getSt_bad b3
    have b1 := getSt_bad b2
    obtain ⟨a4, r4, p4, q4, i4, d4, n4⟩ := getSt_inv c3
    obtain ⟨a3, r3, p3, q3, i3, d3, n3⟩ := getSt_inv b3
    obtain ⟨a2, r2, p2, q2, i2, d2, n2⟩ := getSt_inv b2
    obtain ⟨a1, r1, p1, q1, i1, d1, n1⟩ := getSt_inv b1
    generalize getSt xs x.B (getSt xs x.A (getSt xs x.J (getSt xs x.T (at0 + 1, 0)).2).2).2 = s4 at *
    generalize getSt xs x.A (getSt xs x.J (getSt xs x.T (at0 + 1, 0)).2).2 = s3 at *
    generalize getSt xs x.J (getSt xs x.T (at0 + 1, 0)).2 = s2 at *
    generalize getSt xs x.T (at0 + 1, 0) = s1 at *
    simp only at p1
    have e1 := drop_more d1
    have e2 := drop_more d2
    have e3 := drop_more d3
    have ha2 : a2 = a1 + (dInt x.T s1.1).length := by omega
    have ha3 : a3 = a2 + (dInt x.J s2.1).length := by omega
    have ha4 : a4 = a3 + (dInt x.A s3.1).length := by omega
    rw [← ha2] at e1
    rw [← ha3] at e2
    rw [← ha4] at e3
    have ha : at0.toNat < xs.length := by omega
    have hat : at0 = (at0.toNat : Int) := by omega
    have hO : xs.getD at0.toNat 0 = xs[at0.toNat]'ha := by simp [List.getD_eq_getElem?_getD, List.getElem?_eq_getElem ha]
    have ha1 : at0.toNat + 1 = a1 := by omega
    refine ⟨at0.toNat, r4, hat, by omega, ⟨i1, i2, i3, i4⟩, ?_, ?_⟩
    · rw [List.drop_eq_getElem_cons ha, ha1, d1, ← e1, d2, ← e2, d3, ← e3, d4, hO]
      unfold pt
      simp only [List.cons_append, List.append_assoc]
    · rw [n4]
      unfold pt
      simp only [List.length_cons, List.length_append]
      omega
  · rw [if_neg c3] at h
    exact absurd h c3
theorem readsL_inv (n : Nat) : ∀ {xs : List UInt8} {a : Nat} {x : Ev} {acc l : List Ev} {m : Int}, readsL xs n a x acc = some (l, m) → a ≤ xs.length → ∃ r rest, l = acc ++ r ∧ r.length = n ∧ (∀ e ∈ r, EvIn e) ∧ xs.drop a = pts x r ++ rest ∧ m = ((a + (pts x r).length : Nat) : Int) := by
  induction n with
  | zero =>
    intro xs a x acc l m h ha
    have h' : some (acc, (a : Int)) = some (l, m) := h
    simp only [Option.some.injEq, Prod.mk.injEq] at h'
    exact ⟨[], xs.drop a, by rw [← h'.1, List.append_nil], rfl, by simp, rfl, by rw [← h'.2]; rfl⟩
  | succ n ih =>
    intro xs a x acc l m h ha
    have h' : (if (getE xs a x).2.2 = 0 then readsL xs n (getE xs a x).2.1 (getE xs a x).1 (acc ++ [(getE xs a x).1]) else none) = some (l, m) := h
    split at h'
    · rename_i hz
      obtain ⟨a', rest, e1, e2, e3, e4, e5⟩ := getE_inv hz
      have : a' = a := by omega
      subst this
      generalize getE xs a' x = g at *
      rw [e5] at h'
      obtain ⟨r, rest', f1, f2, f3, f4, f5⟩ := ih h' (drop_le e4 ha)
      refine ⟨g.1 :: r, rest', by rw [f1, List.append_assoc]; rfl, by rw [List.length_cons, f2], ?_, ?_, ?_⟩
      · intro e he
        rcases List.mem_cons.1 he with rfl | he
        · exact e3
        · exact f3 e he
      · show _ = (pt x g.1 ++ pts g.1 r) ++ rest'
        rw [e4, ← drop_more e4, f4, List.append_assoc]
      · rw [f5]
        show _ = ((a' + (pt x g.1 ++ pts g.1 r).length : Nat) : Int)
        rw [List.length_append]
        omega
    · exact absurd h' (by simp)
theorem eventsL_inv {m : List UInt8} {l : List Ev} (h : eventsL m = some (l, true)) : 1 ≤ l.length ∧ l.length ≤ 4096 ∧ (∀ e ∈ l, EvIn e) ∧ m = bodyL l := by
  unfold eventsL at h
  split at h
  · rename_i hc
    obtain ⟨c1, c2, c3⟩ := hc
    obtain ⟨_, hal, rest, hd, hn, hle⟩ := getU_ok c1
    generalize getU m 0 = g at *
    have hd' : m = varint g.1 ++ rest := by simpa using hd
    have hn' : g.2.1 = (((varint g.1).length : Nat) : Int) := by rw [hn]; omega
    cases hr : readsL m g.1 g.2.1 .zero [] with
    | none => rw [hr] at h; simp at h
    | some p =>
      obtain ⟨q, z⟩ := p
      rw [hr] at h
      simp only [Option.some.injEq, Prod.mk.injEq, beq_iff_eq] at h
      obtain ⟨rfl, hz⟩ := h
      rw [hn'] at hr hle
      obtain ⟨r, rest', f1, f2, f3, f4, f5⟩ := readsL_inv _ hr (by omega)
      rw [List.nil_append] at f1
      subst f1
      have hb : bodyL q = varint q.length ++ pts .zero q := putsL_pts q _ _
      have h0 : m.drop (varint g.1).length = rest := by
        have := congrArg (List.drop (varint g.1).length) hd'
        rwa [List.drop_left] at this
      rw [h0] at f4
      have hlen := congrArg List.length f4
      have hml := congrArg List.length hd'
      simp only [List.length_append] at hlen hml
      have hr0 : rest' = [] := List.length_eq_zero_iff.1 (by omega)
      refine ⟨by omega, by omega, f3, ?_⟩
      rw [hb, f2, hd', f4, hr0, List.append_nil]
  · simp at h
theorem readL_inv {b : List UInt8} {at0 : Int} {l : List Ev} {n : Int} (h : readL b at0 = .inl (l, n)) : ∃ (a : Nat) (rest : List UInt8), at0 = a ∧ a ≤ b.length ∧ 1 ≤ l.length ∧ l.length ≤ 4096 ∧ (∀ e ∈ l, EvIn e) ∧ b.drop a = frameL l ++ rest ∧ n = ((a + (frameL l).length : Nat) : Int) := by
  unfold readL at h
  simp only at h
  split at h
  · exact absurd h (by simp)
  rename_i hz
  have hz' : (getU b at0).2.2 = 0 := by simpa using hz
  obtain ⟨ha, hal, rest, hd, hn, hle⟩ := getU_ok hz'
  generalize getU b at0 = g at *
  split at h
  · exact absurd h (by simp)
  split at h
  · exact absurd h (by simp)
  rename_i hg hs
  split at h
  · rename_i he
    split at h
    · rename_i q ev
      simp only [Sum.inl.injEq, Prod.mk.injEq] at h
      obtain ⟨rfl, hm⟩ := h
      obtain ⟨k1, k2, k3, k4⟩ := eventsL_inv ev
      have e0 : g.2.1.toNat = at0.toNat + (varint g.1).length := by omega
      have hdr := drop_more hd
      rw [← e0] at hdr
      rw [hdr] at he k4
      have hrl : g.1 + 4 ≤ rest.length := by
        have := congrArg List.length hdr
        rw [List.length_drop] at this
        omega
      have hbl : (bodyL q).length = g.1 := by rw [← k4, List.length_take]; omega
      refine ⟨at0.toNat, rest.drop (g.1 + 4), by omega, by omega, k1, k2, k3, ?_, ?_⟩
      · rw [hd]
        unfold frameL
        rw [hbl, List.append_assoc]
        congr 1
        rw [← k4, he, List.take_append_drop]
      · rw [frameL_len, hbl]
        omega
    · exact absurd h (by simp)
  · exact absurd h (by simp)
end Go.Pe
