/-
  Segments: events that go on evenly: plain mathematics. No condition.
-/
import Derived.Test.YtogdkhejfkbnmaaSegI
set_option linter.unusedVariables false
set_option linter.unusedSimpArgs false
namespace Go.Pe
open Go Go.Am Go.RowKit

def nextE (p by_ : Ev) : Ev := ⟨IntKind.i64.wrap (p.T + by_.T), p.O, IntKind.i64.wrap (p.J + by_.J), IntKind.i64.wrap (p.A + by_.A), IntKind.i64.wrap (p.B + by_.B)⟩
def ramp (by_ : Ev) : Ev → Nat → List Ev
  | _, 0 => []
  | p, n + 1 => p :: ramp by_ (nextE p by_) n
def rampI (s : Int) : Int → Nat → List Int
  | _, 0 => []
  | v, n + 1 => v :: rampI s (IntKind.i64.wrap (v + s)) n
theorem ramp_len (b : Ev) : ∀ (n : Nat) (p : Ev), (ramp b p n).length = n
  | 0, _ => rfl
  | n + 1, p => by show (ramp b _ n).length + 1 = _; rw [ramp_len b n]
theorem ramp_get (b : Ev) : ∀ (n : Nat) (p : Ev) (i : Nat), i + 1 < n → (ramp b p n).getD (i + 1) .zero = nextE ((ramp b p n).getD i .zero) b
  | 0, _, _, h => by omega
  | 1, _, _, h => by omega
  | n + 2, p, 0, h => rfl
  | n + 2, p, i + 1, h => ramp_get b (n + 1) (nextE p b) i (by omega)
theorem ramp_snoc (b : Ev) : ∀ (n : Nat) (p : Ev), ramp b p (n + 2) = ramp b p (n + 1) ++ [nextE ((ramp b p (n + 1)).getD n .zero) b]
  | 0, p => rfl
  | n + 1, p => by
    have ih := ramp_snoc b n (nextE p b)
    show p :: ramp b (nextE p b) (n + 2) = p :: ramp b (nextE p b) (n + 1) ++ [_]
    rw [ih]; rfl
theorem ramp_take (b : Ev) : ∀ (n : Nat) (p : Ev) (m : Nat), m ≤ n → (ramp b p n).take m = ramp b p m
  | 0, p, m, h => by have : m = 0 := by omega
                     subst this; rfl
  | n + 1, p, 0, h => rfl
  | n + 1, p, m + 1, h => by
    show p :: (ramp b _ n).take m = p :: ramp b _ m
    rw [ramp_take b n _ m (by omega)]
theorem nextE_in {p b : Ev} : EvIn (nextE p b) := ⟨wrap_in _, wrap_in _, wrap_in _, wrap_in _⟩
theorem ramp_in {b : Ev} : ∀ (n : Nat) {p : Ev}, EvIn p → ∀ e ∈ ramp b p n, EvIn e
  | 0, p, _ => by simp [ramp]
  | n + 1, p, h => by
    intro e he
    rcases List.mem_cons.1 he with rfl | he
    · exact h
    · exact ramp_in n nextE_in e he
def byG (k : Nat) (b : Ev) : Int := if k = 1 then 0 else colG k b
theorem ramp_col (b : Ev) (k : Nat) : ∀ (n : Nat) (p : Ev), (ramp b p n).map (colG k) = rampI (byG k b) (colG k p) n
  | 0, _ => rfl
  | n + 1, p => by
    show colG k p :: (ramp b _ n).map (colG k) = colG k p :: rampI _ _ n
    rw [ramp_col b k n]
    congr 2
    match k with
    | 0 => rfl
    | 1 =>
      show ((p.O.toNat : Nat) : Int) = IntKind.i64.wrap ((p.O.toNat : Int) + 0)
      have := p.O.toNat_lt
      rw [IntKind.wrap_i64]; omega
    | 2 => rfl
    | 3 => rfl
    | k + 4 => rfl
theorem runsR_ramp {s : Int} (hs : in64 s) : ∀ (n : Nat) (prev : Int) (run : Nat), runsR prev s run (rampI s (IntKind.i64.wrap (prev + s)) n) = [(s, run + n)]
  | 0, prev, run => rfl
  | n + 1, prev, run => by
    show (if stepI prev (IntKind.i64.wrap (prev + s)) = s then _ else _) = _
    rw [if_pos (step_forth hs), runsR_ramp hs n]
    congr 2; omega
def lenC (s v : Int) (n : Nat) : Nat := if stepI 0 v = s then (varint (foldN s)).length + (varint n).length else (varint (foldN (stepI 0 v))).length + (varint 1).length + ((varint (foldN s)).length + (varint (n - 1)).length)
theorem colT_ramp {s v : Int} (hs : in64 s) {n : Nat} (hn : 2 ≤ n) : (colT 0 (rampI s v n)).length = lenC s v n := by
  obtain ⟨n, rfl⟩ : ∃ m, n = m + 2 := ⟨n - 2, by omega⟩
  rw [colT_enc]
  have h0 : runsT 0 (rampI s v (n + 2)) = runsR v (stepI 0 v) 1 (rampI s (IntKind.i64.wrap (v + s)) (n + 1)) := rfl
  rw [h0]
  unfold lenC
  by_cases h : stepI 0 v = s
  · rw [h, runsR_ramp hs, if_pos rfl]
    simp only [encR, flushR, List.append_nil, List.length_append]
    rw [show 1 + (n + 1) = n + 2 by omega]
  · rw [if_neg h]
    have h1 : runsR v (stepI 0 v) 1 (rampI s (IntKind.i64.wrap (v + s)) (n + 1)) = (stepI 0 v, 1) :: runsR (IntKind.i64.wrap (v + s)) s 1 (rampI s (IntKind.i64.wrap (IntKind.i64.wrap (v + s) + s)) n) := by
      show (if stepI v (IntKind.i64.wrap (v + s)) = stepI 0 v then _ else _) = _
      rw [step_forth hs, if_neg (fun e => h e.symm)]
    rw [h1, runsR_ramp hs]
    simp only [encR, flushR, List.append_nil, List.length_append]
    rw [show 1 + n = n + 2 - 1 by omega]
theorem var_200 : ∀ k, k < 201 → (varint k).length ≤ 2 := by decide +kernel
theorem lenC_le {s v : Int} {n : Nat} (h1 : 2 ≤ n) (h2 : n ≤ 200) : lenC s v 2 ≤ lenC s v n ∧ lenC s v n ≤ lenC s v 2 + 1 := by
  have a1 : (varint 2).length = 1 := by decide +kernel
  have a2 : (varint 1).length = 1 := by decide +kernel
  have b1 := var_200 n (by omega)
  have b2 := var_200 (n - 1) (by omega)
  have c1 := varint_pos n
  have c2 := varint_pos (n - 1)
  unfold lenC
  split
  · omega
  · rw [show 2 - 1 = 1 from rfl]; omega
theorem byG_in {b : Ev} (h : EvIn b) (k : Nat) : in64 (byG k b) := by
  unfold byG
  obtain ⟨h1, h2, h3, h4⟩ := h
  match k with
  | 0 => exact h1
  | 1 => rw [if_pos rfl]; unfold in64; omega
  | 2 => exact h2
  | 3 => exact h3
  | k + 4 => exact h4
theorem ramp_room {e b : Ev} (hb : EvIn b) {n : Nat} (h1 : 2 ≤ n) (h2 : n ≤ 200) : (packB 0 (ramp b e 2)).length ≤ (packB 0 (ramp b e n)).length ∧ (packB 0 (ramp b e n)).length ≤ (packB 0 (ramp b e 2)).length + 6 := by
  have hl : ∀ m, 2 ≤ m → (packB 0 (ramp b e m)).length = 4 + (varint 0).length + (varint m).length + (lenC (byG 0 b) (colG 0 e) m + lenC (byG 1 b) (colG 1 e) m + lenC (byG 2 b) (colG 2 e) m + lenC (byG 3 b) (colG 3 e) m + lenC (byG 4 b) (colG 4 e) m) + 4 := by
    intro m hm
    unfold packB
    rw [sealB_len, denseB_split, ramp_len]
    unfold colsF
    simp only [List.length_append, amd1_len, ramp_col, colT_ramp (byG_in hb _) hm]
    omega
  rw [hl 2 (Nat.le_refl _), hl n h1]
  have a1 : (varint 2).length = 1 := by decide +kernel
  have b1 := var_200 n (by omega)
  have c1 := varint_pos n
  have d0 := lenC_le (s := byG 0 b) (v := colG 0 e) h1 h2
  have d1 := lenC_le (s := byG 1 b) (v := colG 1 e) h1 h2
  have d2 := lenC_le (s := byG 2 b) (v := colG 2 e) h1 h2
  have d3 := lenC_le (s := byG 3 b) (v := colG 3 e) h1 h2
  have d4 := lenC_le (s := byG 4 b) (v := colG 4 e) h1 h2
  omega
end Go.Pe
