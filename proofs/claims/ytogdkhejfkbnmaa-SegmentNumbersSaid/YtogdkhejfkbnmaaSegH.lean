/-
  Segments: what is packed is unpacked, and the other way: plain mathematics. No condition.
-/
import Derived.Test.YtogdkhejfkbnmaaSegF
import Derived.Test.YtogdkhejfkbnmaaEvtW
import Derived.Test.YtogdkhejfkbnmaaEvtO
import Derived.Test.YtogdkhejfkbnmaaEvtA0
set_option linter.unusedVariables false
set_option linter.unusedSimpArgs false
namespace Go.Pe
open Go Go.Am Go.RowKit

def runsR (prev more : Int) (run : Nat) : List Int → List (Int × Nat)
  | [] => [(more, run)]
  | v :: r => if stepI prev v = more then runsR v more (run + 1) r else (more, run) :: runsR v (stepI prev v) 1 r
def runsT (prev : Int) : List Int → List (Int × Nat)
  | [] => []
  | v :: r => runsR v (stepI prev v) 1 r
def encR : List (Int × Nat) → List UInt8
  | [] => []
  | p :: r => flushR p.1 p.2 ++ encR r
theorem colR_enc : ∀ (l : List Int) (prev more : Int) (run : Nat), colR prev more run l = encR (runsR prev more run l)
  | [], _, _, _ => by simp [colR, runsR, encR]
  | v :: r, prev, more, run => by
    unfold colR runsR
    split
    · exact colR_enc r _ _ _
    · rw [colR_enc r]; rfl
theorem colT_enc (l : List Int) (prev : Int) : colT prev l = encR (runsT prev l) := by
  cases l with
  | nil => rfl
  | cons v r => exact colR_enc r _ _ _
def goodR (last : Int) (fst : Bool) : List (Int × Nat) → Prop
  | [] => True
  | (more, j) :: rs => in64 more ∧ 1 ≤ j ∧ (fst = false → more ≠ last) ∧ goodR more false rs
def sumR : List (Int × Nat) → Nat
  | [] => 0
  | (_, j) :: rs => j + sumR rs
def decR (k : Nat) (n : Int) : List (Int × Nat) → Option (List Int)
  | [] => some []
  | (more, j) :: rs => match runV k j n more with
    | none => none
    | some (vs, n') => (decR k n' rs).map (vs ++ ·)
theorem step_in64 (a v : Int) : in64 (stepI a v) := wrap_in _
theorem step_back {a v : Int} (h : in64 v) : IntKind.i64.wrap (a + stepI a v) = v := wrap_back h
theorem step_forth {a m : Int} (h : in64 m) : stepI a (IntKind.i64.wrap (a + m)) = m := wrap_forth h
theorem runsR_good : ∀ (l : List Int) (prev more : Int) (run : Nat) (last : Int) (fst : Bool), in64 more → 1 ≤ run → (fst = false → more ≠ last) → goodR last fst (runsR prev more run l)
  | [], _, _, _, _, _, h1, h2, h3 => ⟨h1, h2, h3, trivial⟩
  | v :: r, prev, more, run, last, fst, h1, h2, h3 => by
    unfold runsR
    split
    · exact runsR_good r _ _ _ _ _ h1 (by omega) h3
    · rename_i hn
      exact ⟨h1, h2, h3, runsR_good r _ _ _ _ _ (step_in64 _ _) (by omega) (fun _ => hn)⟩
theorem runsR_sum : ∀ (l : List Int) (prev more : Int) (run : Nat), sumR (runsR prev more run l) = run + l.length
  | [], _, _, _ => by simp [runsR, sumR]
  | v :: r, prev, more, run => by
    unfold runsR
    split
    · rw [runsR_sum r, List.length_cons]; omega
    · show run + sumR _ = _
      rw [runsR_sum r, List.length_cons]; omega
theorem runV_snoc {k : Nat} {more v : Int} (hv : colOK k v = true) : ∀ (j : Nat) {n : Int} {P : List Int} {prev : Int}, runV k j n more = some (P, prev) → IntKind.i64.wrap (prev + more) = v → runV k (j + 1) n more = some (P ++ [v], v)
  | 0, n, P, prev, h, hw => by
    unfold runV at h
    simp only [Option.some.injEq, Prod.mk.injEq] at h
    obtain ⟨rfl, rfl⟩ := h
    unfold runV
    rw [hw, if_pos hv]; rfl
  | j + 1, n, P, prev, h, hw => by
    unfold runV at h
    by_cases hc : colOK k (IntKind.i64.wrap (n + more)) = true
    · rw [if_pos hc] at h
      cases hr : runV k j (IntKind.i64.wrap (n + more)) more with
      | none => rw [hr] at h; simp at h
      | some p =>
        obtain ⟨Q, pv⟩ := p
        rw [hr] at h
        simp only [Option.map_some, Option.some.injEq, Prod.mk.injEq] at h
        obtain ⟨rfl, rfl⟩ := h
        have := runV_snoc hv j hr hw
        unfold runV
        rw [if_pos hc, this]; rfl
    · rw [if_neg hc] at h; simp at h
theorem runsR_dec {k : Nat} : ∀ (l : List Int) {n prev more : Int} {run : Nat} {P : List Int}, (∀ v ∈ l, in64 v ∧ colOK k v = true) → runV k run n more = some (P, prev) → decR k n (runsR prev more run l) = some (P ++ l)
  | [], n, prev, more, run, P, h, hr => by
    unfold runsR decR
    rw [hr]; simp [decR]
  | v :: r, n, prev, more, run, P, h, hr => by
    have hv := h v List.mem_cons_self
    have hrr := fun w hw => h w (List.mem_cons_of_mem _ hw)
    unfold runsR
    split
    · rename_i hs
      have := runsR_dec r hrr (runV_snoc hv.2 run hr (by rw [← hs]; exact step_back hv.1))
      rw [this, List.append_assoc]; rfl
    · have h1 : runV k 1 prev (stepI prev v) = some ([v], v) := by
        unfold runV
        rw [step_back hv.1, if_pos hv.2]; rfl
      have := runsR_dec r hrr h1
      unfold decR
      rw [hr]
      simp only [this]
      rfl
theorem runsT_dec {k : Nat} {l : List Int} (h : ∀ v ∈ l, in64 v ∧ colOK k v = true) (n : Int) : decR k n (runsT n l) = some l := by
  cases l with
  | nil => rfl
  | cons v r =>
    have hv := h v List.mem_cons_self
    have h1 : runV k 1 n (stepI n v) = some ([v], v) := by
      unfold runV
      rw [step_back hv.1, if_pos hv.2]; rfl
    exact runsR_dec r (fun w hw => h w (List.mem_cons_of_mem _ hw)) h1
theorem runsT_good (l : List Int) (n last : Int) : goodR last true (runsT n l) := by
  cases l with
  | nil => trivial
  | cons v r => exact runsR_good r _ _ _ _ _ (step_in64 _ _) (Nat.le_refl _) (by simp)
theorem runsT_sum (l : List Int) (n : Int) : sumR (runsT n l) = l.length := by
  cases l with
  | nil => rfl
  | cons v r => show sumR (runsR _ _ _ _) = _; rw [runsR_sum, List.length_cons]; omega
theorem goodR_len : ∀ {rs : List (Int × Nat)} {last : Int} {fst : Bool}, goodR last fst rs → rs.length ≤ sumR rs
  | [], _, _, _ => Nat.le_refl _
  | (m, j) :: rs, _, _, h => by
    have := goodR_len h.2.2.2
    show rs.length + 1 ≤ j + sumR rs
    have := h.2.1
    omega
theorem colV_enc {b : List UInt8} {k : Nat} : ∀ (rs : List (Int × Nat)) {f m : Nat} {n last : Int} {fst : Bool} {a : Nat} {rest : List UInt8} {vs : List Int}, goodR last fst rs → sumR rs = m → rs.length ≤ f → m < 18446744073709551616 → b.drop a = encR rs ++ rest → a ≤ b.length → decR k n rs = some vs → colV b k f m n last fst a = some (vs, ((a + (encR rs).length : Nat) : Int))
  | [], f, m, n, last, fst, a, rest, vs, hg, hs, hf, hm, hd, ha, hv => by
    have hm0 : m = 0 := hs.symm
    subst hm0
    have hv0 : vs = [] := by
      have : some [] = some vs := hv
      simpa using this.symm
    subst hv0
    have : (a + (encR ([] : List (Int × Nat))).length : Nat) = a := by simp [encR]
    rw [this]
    cases f <;> simp [colV]
  | (more, j) :: rs, f, m, n, last, fst, a, rest, vs, hg, hs, hf, hm, hd, ha, hv => by
    obtain ⟨h1, h2, h3, h4⟩ := hg
    have hs' : j + sumR rs = m := hs
    have hl : (((more, j) :: rs : List (Int × Nat)).length) = rs.length + 1 := rfl
    obtain ⟨f, rfl⟩ : ∃ g, f = g + 1 := ⟨f - 1, by omega⟩
    have he : encR ((more, j) :: rs) = varint (foldN more) ++ (varint j ++ encR rs) := by
      show flushR more j ++ encR rs = _
      unfold flushR
      rw [List.append_assoc]
    have hd1 : b.drop a = varint (foldN more) ++ (varint j ++ (encR rs ++ rest)) := by
      rw [hd, he]; simp only [List.append_assoc]
    have g1 := getU_varint hd1 ha (foldN_lt h1)
    have gi : getI b (a : Int) = (more, ((a + (varint (foldN more)).length : Nat) : Int), 0) := by
      unfold getI
      simp only [g1, if_true, openI_foldN, Int.natCast_add]
    have hd2 := drop_more hd1
    have ha2 := drop_le hd1 ha
    have g2 := getU_varint hd2 ha2 (by omega : j < 18446744073709551616)
    have hd3 := drop_more hd2
    have ha3 := drop_le hd2 ha2
    unfold decR at hv
    cases hr : runV k j n more with
    | none => rw [hr] at hv; simp at hv
    | some p =>
      obtain ⟨ws, n'⟩ := p
      rw [hr] at hv
      simp only at hv
      cases hdr : decR k n' rs with
      | none => rw [hdr] at hv; simp at hv
      | some us =>
        rw [hdr] at hv
        simp only [Option.map_some, Option.some.injEq] at hv
        subst hv
        have ih := colV_enc rs (f := f) (m := m - j) (n := n') (last := more) (fst := false) (a := a + (varint (foldN more)).length + (varint j).length) (rest := rest) (vs := us) h4 (by omega) (by omega) (by omega) hd3 ha3 hdr
        unfold colV
        rw [if_neg (by omega : ¬ m = 0), gi]
        simp only []
        rw [if_neg (by simp)]
        have g2' : getU b ((a + (varint (foldN more)).length : Nat) : Int) = (j, ((a + (varint (foldN more)).length + (varint j).length : Nat) : Int), 0) := by rw [g2]; simp only [Int.natCast_add]
        rw [g2']
        simp only []
        rw [if_neg (by
          intro hc
          rcases hc with hc | hc | hc | ⟨hc1, hc2⟩
          · simp at hc
          · omega
          · omega
          · exact h3 hc1 hc2)]
        rw [hr]
        simp only [ih, Option.map_some]
        rw [he]
        simp only [List.length_append, Nat.add_assoc]
theorem colV_inv {b : List UInt8} {k : Nat} : ∀ (f : Nat) {m : Nat} {n last : Int} {fst : Bool} {a : Nat} {vs : List Int} {a' : Int}, a ≤ b.length → colV b k f m n last fst a = some (vs, a') → ∃ rs rest, goodR last fst rs ∧ sumR rs = m ∧ decR k n rs = some vs ∧ b.drop a = encR rs ++ rest ∧ a' = ((a + (encR rs).length : Nat) : Int)
  | f, m, n, last, fst, a, vs, a', ha, h => by
    by_cases hm : m = 0
    · subst hm
      have h' : some (([] : List Int), (a : Int)) = some (vs, a') := by
        cases f <;> simpa [colV] using h
      simp only [Option.some.injEq, Prod.mk.injEq] at h'
      obtain ⟨rfl, rfl⟩ := h'
      exact ⟨[], b.drop a, trivial, rfl, rfl, rfl, by simp [encR]⟩
    · cases f with
      | zero => unfold colV at h; rw [if_neg hm] at h; simp at h
      | succ f =>
        unfold colV at h
        rw [if_neg hm] at h
        by_cases c1 : (getI b (a : Int)).2.2 ≠ 0
        · rw [if_pos c1] at h; simp at h
        rw [if_neg c1] at h
        have c1' : (getI b (a : Int)).2.2 = 0 := by simpa using c1
        have hgi : (getU b (a : Int)).2.2 = 0 := by
          unfold getI at c1'
          split at c1'
          · assumption
          · exact c1'
        obtain ⟨_, _, r1, d1, e1, l1⟩ := getU_ok hgi
        have hgi1 : getI b (a : Int) = (openI (getU b (a : Int)).1, (getU b (a : Int)).2.1, 0) := by
          unfold getI
          rw [if_pos hgi]
        rw [hgi1] at h
        simp only at h
        generalize hU : getU b (a : Int) = U at h d1 e1 l1 hgi1 hgi
        have hUlt : U.1 < 18446744073709551616 := by rw [← hU]; exact getU_lt _ _
        by_cases c2 : (getU b U.2.1).2.2 ≠ 0 ∨ (getU b U.2.1).1 < 1 ∨ m < (getU b U.2.1).1 ∨ (fst = false ∧ openI U.1 = last)
        · rw [if_pos c2] at h; simp at h
        rw [if_neg c2] at h
        have c21 : (getU b U.2.1).2.2 = 0 := by
          cases Decidable.em ((getU b U.2.1).2.2 = 0) with
          | inl h => exact h
          | inr h => exact absurd (Or.inl h) c2
        have c22 : ¬ (getU b U.2.1).1 < 1 := fun e => c2 (Or.inr (Or.inl e))
        have c23 : ¬ m < (getU b U.2.1).1 := fun e => c2 (Or.inr (Or.inr (Or.inl e)))
        have c24 : fst = false → openI U.1 ≠ last := fun e e2 => c2 (Or.inr (Or.inr (Or.inr ⟨e, e2⟩)))
        obtain ⟨_, _, r2, d2, e2, l2⟩ := getU_ok c21
        generalize hV : getU b U.2.1 = V at h d2 e2 l2 c21 c22 c23 c2
        cases hr : runV k V.1 n (openI U.1) with
        | none => rw [hr] at h; simp at h
        | some p =>
          obtain ⟨ws, n'⟩ := p
          rw [hr] at h
          simp only at h
          have q0 : ((a : Int)).toNat = a := by omega
          rw [q0] at d1
          have q1 : U.2.1.toNat = a + (varint U.1).length := by omega
          rw [q1] at d2
          have q2 : V.2.1 = ((a + (varint U.1).length + (varint V.1).length : Nat) : Int) := by omega
          rw [q2] at h
          cases hc : colV b k f (m - V.1) n' (openI U.1) false ((a + (varint U.1).length + (varint V.1).length : Nat) : Int) with
          | none => rw [hc] at h; simp at h
          | some p =>
            obtain ⟨us, a2⟩ := p
            rw [hc] at h
            simp only [Option.map_some, Option.some.injEq, Prod.mk.injEq] at h
            obtain ⟨rfl, rfl⟩ := h
            obtain ⟨rs, rest, i1, i2, i3, i4, i5⟩ := colV_inv f (a := a + (varint U.1).length + (varint V.1).length) (by omega) hc
            refine ⟨(openI U.1, V.1) :: rs, rest, ⟨in64_openI hUlt, by omega, c24, i1⟩, ?_, ?_, ?_, ?_⟩
            · show V.1 + sumR rs = m
              omega
            · unfold decR
              rw [hr]
              simp only [i3, Option.map_some]
            · have j1 := drop_more d1
              have j2 : b.drop (a + (varint U.1).length) = varint V.1 ++ r2 := d2
              have j3 := drop_more j2
              have k1 : r1 = varint V.1 ++ r2 := by rw [← j1]; exact j2
              have k2 : r2 = encR rs ++ rest := by rw [← j3]; exact i4
              rw [d1, k1, k2]
              show _ = (flushR _ _ ++ encR rs) ++ rest
              unfold flushR
              rw [foldN_openI]
              simp only [List.append_assoc]
            · rw [i5]
              show ((_ : Nat) : Int) = (((a + (flushR (openI U.1) V.1 ++ encR rs).length : Nat)) : Int)
              unfold flushR
              rw [foldN_openI]
              simp only [List.length_append, Nat.add_assoc]
theorem runsR_walk {k : Nat} {more : Int} (hm : in64 more) : ∀ (j : Nat) {n : Int} {vs : List Int} {n' : Int} (i : Nat) (r : List Int), runV k j n more = some (vs, n') → runsR n more i (vs ++ r) = runsR n' more (i + j) r
  | 0, n, vs, n', i, r, h => by
    unfold runV at h
    simp only [Option.some.injEq, Prod.mk.injEq] at h
    obtain ⟨rfl, rfl⟩ := h
    rfl
  | j + 1, n, vs, n', i, r, h => by
    unfold runV at h
    split at h
    · cases hr : runV k j (IntKind.i64.wrap (n + more)) more with
      | none => rw [hr] at h; simp at h
      | some p =>
        obtain ⟨Q, pv⟩ := p
        rw [hr] at h
        simp only [Option.map_some, Option.some.injEq, Prod.mk.injEq] at h
        obtain ⟨rfl, rfl⟩ := h
        have ih := runsR_walk hm j (i + 1) r hr
        rw [List.cons_append]
        conv => lhs; unfold runsR
        rw [if_pos (step_forth hm), ih]
        congr 1; omega
    · simp at h
theorem decR_first {k : Nat} {more : Int} {j : Nat} {rs : List (Int × Nat)} {n : Int} {vs : List Int} (hm : in64 more) (hj : 1 ≤ j) (h : decR k n ((more, j) :: rs) = some vs) : ∃ v r, vs = v :: r ∧ stepI n v = more := by
  obtain ⟨j, rfl⟩ : ∃ g, j = g + 1 := ⟨j - 1, by omega⟩
  unfold decR runV at h
  split at h
  · simp at h
  · rename_i ws n' hr
    split at hr
    · cases hq : runV k j (IntKind.i64.wrap (n + more)) more with
      | none => rw [hq] at hr; simp at hr
      | some p =>
        rw [hq] at hr
        simp only [Option.map_some, Option.some.injEq, Prod.mk.injEq] at hr
        obtain ⟨rfl, rfl⟩ := hr
        cases hd : decR k p.2 rs with
        | none => rw [hd] at h; simp at h
        | some us =>
          rw [hd] at h
          simp only [Option.map_some, Option.some.injEq] at h
          subst h
          exact ⟨_, _, rfl, step_forth hm⟩
    · simp at hr
theorem runsT_of {k : Nat} : ∀ {rs : List (Int × Nat)} {last : Int} {fst : Bool} {n : Int} {vs : List Int}, goodR last fst rs → decR k n rs = some vs → runsT n vs = rs
  | [], _, _, n, vs, _, h => by
    have h' : some [] = some vs := h
    simp only [Option.some.injEq] at h'
    subst h'; rfl
  | (more, j) :: rs, last, fst, n, vs, hg, h => by
    obtain ⟨h1, h2, h3, h4⟩ := hg
    obtain ⟨v, r, rfl, hv⟩ := decR_first h1 h2 h
    have e1 : runsT n (v :: r) = runsR n more 0 (v :: r) := by
      conv => rhs; unfold runsR
      rw [if_pos hv]
      show runsR v (stepI n v) 1 r = _
      rw [hv]
    unfold decR at h
    cases hr : runV k j n more with
    | none => rw [hr] at h; simp at h
    | some p =>
      obtain ⟨ws, n'⟩ := p
      rw [hr] at h
      simp only at h
      cases hd : decR k n' rs with
      | none => rw [hd] at h; simp at h
      | some us =>
        rw [hd] at h
        simp only [Option.map_some, Option.some.injEq] at h
        have hw := runsR_walk h1 j 0 us hr
        rw [e1, ← h, hw]
        have ih := runsT_of h4 hd
        rw [Nat.zero_add]
        cases rs with
        | nil =>
          have hu : us = [] := by
            have : some [] = some us := hd
            simpa using this.symm
          subst hu; rfl
        | cons q rs =>
          obtain ⟨m2, j2⟩ := q
          obtain ⟨g1, g2, g3, _⟩ := h4
          obtain ⟨v2, r2, rfl, hv2⟩ := decR_first g1 g2 hd
          conv => lhs; unfold runsR
          rw [hv2, if_neg (g3 rfl)]
          have : runsR v2 m2 1 r2 = runsT n' (v2 :: r2) := by
            show _ = runsR v2 (stepI n' v2) 1 r2
            rw [hv2]
          rw [this, ih]
end Go.Pe
