/-
  BytesTells: its last chain. No condition.
-/
import Derived.Test.YtmjoneiagfegdaaBytB
import Derived.Test.YtmjoneiagfegdaaPeA
import Derived.Test.YtmjoneiagfegdaaView
set_option linter.unusedVariables false
set_option linter.unusedSimpArgs false
namespace Go.Pe
open Go Go.Am Go.RowKit

theorem call_outW {g : List PV → Option PV} {st : St} {key : Nat} {v : PV} {l l' : List UInt8} {rest rest' : List PV} (ho : OutOK st v l) (hd : deepL st rest = some rest') (hr : ∀ j, j ∈ keyOf v → (keysL st rest).contains j = false) (hg : ∀ v', outL v' = some l → g (v' :: rest') = some (.osl 1 l'.length (ofBytes l'))) :
    ∃ st', callStep g true st key (v :: rest) = some (.rsl key 1 0 l'.length, st') ∧ st'.get key = some (.cells (ofBytes l') false) ∧ st'.cnt = st.cnt ∧ ∀ j, j ≠ key → j ∉ keyOf v → st'.get j = st.get j := by
  rcases ho with ⟨rfl, rfl⟩ | ⟨k, rfl, hk, _⟩
  · refine ⟨_, ?_, St.get_putk _ _ _, rfl, fun j hj _ => St.get_put_ne (fun e => hj e.symm)⟩
    have hd2 : deepL st (.nsl :: rest) = some (.nsl :: rest') := by
      unfold deepL at hd ⊢
      simp only [mapO, hd]
      rfl
    unfold callStep
    simp only [hd2, hg .nsl rfl, closed_osl, if_true]
    rfl
  · have hg2 := hg (.osl 1 l.length (ofBytes l)) (by unfold outL; simp only [bytesOf_of, if_true])
    have hr2 := hr k (by simp only [keyOf_rsl, List.mem_singleton])
    refine ⟨(st.put k none).put key (some (.cells (ofBytes l') false)), ?_, St.get_putk _ _ _, rfl, fun j hj hv => ?_⟩
    · unfold callStep
      simp only [hk, len_ofBytes, keys_ofBytes, List.nil_append, hr2, deepL_flat (flat_ofBytes l), hd, hg2, closed_osl, if_true]
      rw [if_pos ⟨trivial, by omega, by omega, trivial⟩]
      rfl
    · rw [St.get_put_ne (fun e => hj e.symm), St.get_put_ne (fun e => hv (by simp only [keyOf_rsl, List.mem_singleton]; exact e.symm))]
theorem Own.outK {st : St} {w : PV} {b : List UInt8} (h : Own st 1 w b.length (ofBytes b)) : OutOK st w b := by
  rcases h with ⟨rfl, _, h⟩ | ⟨k, rfl, h1, h2, h3⟩
  · refine .inl ⟨rfl, ?_⟩
    cases b with
    | nil => rfl
    | cons a r => simp [ofBytes] at h
  · exact .inr ⟨k, rfl, h1, h3⟩
theorem same_w {st : St} {w : PV} {n : Nat} {cs : List PV} (h : Own st 1 w n cs) : PV.same deepS w w = true := by
  rcases h with ⟨rfl, _, _⟩ | ⟨k, rfl, _⟩
  · rfl
  · unfold deepS PV.same; simp
theorem same_i (k : IntKind) (x : Int) : PV.same deepS (.i k x) (.i k x) = true := by unfold deepS PV.same; simp
theorem same_s (x : List UInt8) : PV.same deepS (.s x) (.s x) = true := by unfold deepS PV.same; simp
theorem zipD {f : Nat} : ∀ l : List PV, (∀ p ∈ l, PV.same f p p = true) → ((l.zip l).all fun p => PV.same f p.1 p.2) = true
  | [], _ => rfl
  | a :: r, h => by
    rw [List.zip_cons_cons, List.all_cons, Bool.and_eq_true]
    exact ⟨h a (by simp), zipD r fun p hp => h p (by simp [hp])⟩
theorem keysP_B (st : St) : ∀ (f : Nat) (b : List UInt8), (ofBytes b).flatMap (keysP st f) = []
  | 0, b => by rw [List.flatMap_eq_nil_iff]; intro x _; rfl
  | f + 1, b => by
    rw [List.flatMap_eq_nil_iff]
    intro x hx
    unfold ofBytes at hx
    obtain ⟨y, _, rfl⟩ := List.mem_map.1 hx
    rfl
theorem keysL_own {st : St} {w : PV} {n : Nat} {b : List UInt8} (h : Own st 1 w n (ofBytes b)) : keysL st [w] = keyOf w := by
  rcases h with ⟨rfl, _, _⟩ | ⟨k, rfl, hk, _⟩
  · rfl
  · have e : keysP st (11 + 1) (.rsl k 1 0 n) = k :: (match st.get k with | some (.cells cs _) => cs.flatMap (keysP st 11) | _ => []) := rfl
    show keysP st (11 + 1) (.rsl k 1 0 n) ++ [] = _
    rw [e, hk]
    simp only [keysP_B st 11 b, keyOf_rsl, List.append_nil]
def bchain : MCode := (.chain [⟨.l 189, .mv (.t 26), none⟩, ⟨.l 190, .mv (.t 0), none⟩, ⟨.l 191, .call 11 true [.l 189, .l 190], none⟩, ⟨.l 192, .mv (.t 9), none⟩, ⟨.l 193, .call 31 true [.l 191, .l 192], none⟩, ⟨.l 194, .mv (.t 0), none⟩, ⟨.l 195, .conv (.int .i64) (.l 194), none⟩, ⟨.l 196, .call 14 true [.l 193, .l 195], none⟩, ⟨.l 197, .conv .b2s (.l 196), none⟩, ⟨.l 198, .mv (.t 1), none⟩, ⟨.l 199, .mv (.t 0), none⟩, ⟨.l 200, .call 29 false [.l 198, .l 199], none⟩, ⟨.l 201, .mv (.t 1), none⟩, ⟨.l 202, .call 32 false [.l 200, .l 201], none⟩, ⟨.l 203, .mv (.t 0), none⟩, ⟨.l 204, .conv (.int .i64) (.l 203), none⟩, ⟨.l 205, .call 30 false [.l 202, .l 204], none⟩, ⟨.l 206, .conv .b2s (.l 205), none⟩, ⟨.l 207, .bin .eql (.l 197) (.l 206), none⟩, ⟨.l 208, .mv (.l 207), none⟩, ⟨.l 209, .mv (.t 9), some (.l 208, true)⟩, ⟨.l 210, .conv .b2s (.l 209), some (.l 208, true)⟩, ⟨.l 211, .mv (.t 1), some (.l 208, true)⟩, ⟨.l 212, .conv .b2s (.l 211), some (.l 208, true)⟩, ⟨.l 213, .bin .eql (.l 210) (.l 212), some (.l 208, true)⟩, ⟨.l 214, .pick (.l 208) (.l 213) (.c (.b false)), none⟩, ⟨.l 215, .mv (.l 214), none⟩, ⟨.l 216, .call 10 false [], some (.l 215, true)⟩, ⟨.l 217, .pick (.l 215) (.l 216) (.c (.b false)), none⟩, ⟨.t 8, .mv (.l 217), none⟩] [0, 0, 3, 0, 15, 0, 32, 127, 255, 0, 0, 1791, 0, 7935, 0, 16384, 65279, 130815, 262143, 524287, 1048575, 2097151, 1048575, 5242879, 16777215, 33554431, 67108863, 134217727, 268435455, 536870911] none)
theorem bchain_ev {env : Env} {st : St} {b : List UInt8} {n : Nat} {z : Int} {w w9 : PV} {Q : MExit → Now → Prop} (g0 : env.get 0 = .i .u64 n) (g1 : env.get 1 = .fsl b.length (ofBytes b)) (g9 : env.get 9 = w) (g26 : env.get 26 = w9) (ow : Own st 1 w b.length (ofBytes b)) (o9 : Own st 1 w9 b.length (ofBytes b)) (hne : ∀ j, j ∈ keyOf w9 → j ∉ keyOf w) (ht : ∀ k, st.cnt ≤ k → st.get k = none) (hb : b.length ≤ 700) (hn : n < 2 ^ 64) (hz : IntKind.i64.wrap (n : Int) = z) (hz64 : in64 z)
    (hQ : ∀ env' st', env'.get 8 = .b true → Q .ret ⟨env', st'⟩) : WC cfgL8 (evFn cfgL8 401) (401 + 1) (.seq bchain .ret) ⟨env, st⟩ Q := by
  obtain ⟨sto, c⟩ := st
  unfold bchain
  rw [Z0]
  have hk9 := o9.lt
  have hkw := ow.lt
  simp only at hk9 hkw ht
  obtain ⟨T, hT⟩ : ∃ T, T = keyOf w9 ++ [c + 16, c + 32] := ⟨_, rfl⟩
  have nT : ∀ j, c ≤ j → j ≠ c + 16 → j ≠ c + 32 → j ∉ T := fun j h1 h2 h3 h => by
    simp only [hT, List.mem_append, List.mem_cons, List.not_mem_nil, or_false] at h
    rcases h with h | h | h
    · have := hk9 j h; omega
    · exact h2 h
    · exact h3 h
  have kT : ∀ j, j ∉ T → j ∉ keyOf w9 ∧ j ≠ c + 16 ∧ j ≠ c + 32 := fun j h => by
    simp only [hT, List.mem_append, List.mem_cons, List.not_mem_nil, or_false, not_or] at h
    exact h
  refine WC_chainL9 (evFn_ok (cfgL8_ok (Gl := fun _ _ => none)) _) (evFn_ok2 (cfgL8_ok (Gl := fun _ _ => none)) _).2 T 8 (by rfl) (ns := [false, false, false, true, false, true, true, false, true, true, true, false, true, false, true, true, false, false, false, false, false, false, false, false, false, false, false, false, false, false]) (by rfl) ht ?_
  clear hT
  (first | rw [WOC9_cons] | rw [WOC9_guard])
  (try simp (maxSteps := 2000000) (disch := first | omega | rfl | assumption) only [↓Xp, ↓Xt, Xq, Xc, binP, ofCells, Nat.reduceAdd, Nat.reduceMul, Nat.reduceLT, Nat.reduceEqDiff, reduceIte, Xa, Xn, unP, len_f, len_n, len_r, Xl, Nat.reduceLeDiff, okAt9_b, okAt9_w, okAt9_p, postAt_q, postAt_w, selfAt_f, selfAt_t, g0, g1, g9, g26])
  (first | rw [WOC9_cons] | rw [WOC9_guard])
  (try simp (maxSteps := 2000000) (disch := first | omega | rfl | assumption) only [↓Xp, ↓Xt, Xq, Xc, binP, ofCells, Nat.reduceAdd, Nat.reduceMul, Nat.reduceLT, Nat.reduceEqDiff, reduceIte, Xa, Xn, unP, len_f, len_n, len_r, Xl, Nat.reduceLeDiff, okAt9_b, okAt9_w, okAt9_p, postAt_q, postAt_w, selfAt_f, selfAt_t, g0, g1, g9, g26])
  (first | rw [WOC9_cons] | rw [WOC9_guard])
  (try simp (maxSteps := 2000000) (disch := first | omega | rfl | assumption) only [↓Xp, ↓Xt, Xq, Xc, binP, ofCells, Nat.reduceAdd, Nat.reduceMul, Nat.reduceLT, Nat.reduceEqDiff, reduceIte, Xa, Xn, unP, len_f, len_n, len_r, Xl, Nat.reduceLeDiff, okAt9_b, okAt9_w, okAt9_p, postAt_q, postAt_w, selfAt_f, selfAt_t, g0, g1, g9, g26])
  simp only [Bool.true_or, Bool.or_false, okAt9, light9, postAt, quietB, pureB, loadB, b2sB, lightOp, selfAt_f, selfAt_t, if_true, Bool.false_eq_true, if_false, true_implies, Bool.or_true, false_implies, and_true, true_and, List.mem_cons, List.not_mem_nil, or_false, Bool.false_or, not_or, Z0I_, Z0K_]
  refine ⟨nT _ (by omega) (by omega) (by omega), nT _ (by omega) (by omega) (by omega), ?_⟩
  have oo : OutOK ⟨sto, c + 240⟩ w9 b := o9.outK.mono (fun _ _ => rfl) (by simp only; omega)
  obtain ⟨st1, e1, k1, c1, f1⟩ := call_outW (g := runPure cfgL8 (evFn cfgL8 401) 11) (st := ⟨sto, c + 240⟩) (key := c + 16) (rest := [.i .u64 n]) (rest' := [.i .u64 n]) (l' := b ++ varint n) oo rfl (fun _ _ => rfl) (by
    intro v' hv'
    rw [runPure_ext (show cfgL8.ext 11 = some gUint from hxB3_gUint)]
    unfold gUint
    simp only [hv', Int.toNat_natCast]
    rw [if_pos ⟨by omega, by omega, by unfold maxBytes; omega⟩])
  rw [e1, Zx]
  refine ⟨fun k h1 h2 => f1 k h1 (kT k h2).1, ?_⟩
  simp only at c1
  have ow1 : Own st1 1 w b.length (ofBytes b) := ow.move (by simp only; omega) (fun j hj _ => by
    have := hkw j hj
    rw [f1 j (by omega) (fun h => hne j h hj)]; rfl)
  have u1 : OutOK st1 (.rsl (c + 16) 1 0 (b ++ varint n).length) (b ++ varint n) := .inr ⟨_, rfl, k1, by omega⟩
  have z1 : ∀ j, c + 24 ≤ j → st1.get j = none := fun j hj => by
    rw [f1 j (by omega) (fun h => by have := hk9 j h; omega)]
    exact ht j (by omega)
  (first | rw [WOC9_cons] | rw [WOC9_guard])
  (try simp (maxSteps := 2000000) (disch := first | omega | rfl | assumption) only [↓Xp, ↓Xt, Xq, Xc, binP, ofCells, Nat.reduceAdd, Nat.reduceMul, Nat.reduceLT, Nat.reduceEqDiff, reduceIte, Xa, Xn, unP, len_f, len_n, len_r, Xl, Nat.reduceLeDiff, okAt9_b, okAt9_w, okAt9_p, postAt_q, postAt_w, selfAt_f, selfAt_t, g0, g1, g9, g26])
  (first | rw [WOC9_cons] | rw [WOC9_guard])
  (try simp (maxSteps := 2000000) (disch := first | omega | rfl | assumption) only [↓Xp, ↓Xt, Xq, Xc, binP, ofCells, Nat.reduceAdd, Nat.reduceMul, Nat.reduceLT, Nat.reduceEqDiff, reduceIte, Xa, Xn, unP, len_f, len_n, len_r, Xl, Nat.reduceLeDiff, okAt9_b, okAt9_w, okAt9_p, postAt_q, postAt_w, selfAt_f, selfAt_t, g0, g1, g9, g26])
  simp only [Bool.true_or, Bool.or_false, okAt9, light9, postAt, quietB, pureB, loadB, b2sB, lightOp, selfAt_f, selfAt_t, if_true, Bool.false_eq_true, if_false, true_implies, Bool.or_true, false_implies, and_true, true_and, List.mem_cons, List.not_mem_nil, or_false, Bool.false_or, not_or, Z0I_, Z0K_]
  refine ⟨nT _ (by omega) (by omega) (by omega), ⟨same_w ow, by rw [z1 _ (by omega)]; rfl⟩, ?_⟩
  obtain ⟨st2, e2, k2, c2, f2⟩ := call_outW (g := runPure cfgL8 (evFn cfgL8 401) 31) (key := c + 32) (l' := (b ++ varint n) ++ varint b.length ++ b) u1 (deepL_one ow1.deepV) (fun j hj => by
    rw [keysL_own ow1]
    simp only [keyOf_rsl, List.mem_singleton] at hj
    have : j ∉ keyOf w := fun h => by have := hkw j h; omega
    simpa using this) (by
    intro v' hv'
    rw [runPure_ext (show cfgL8.ext 31 = some gBlob from hxB3_gBlob)]
    unfold gBlob
    simp only [hv', ow1.inV]
    have hv := varint_le n
    rw [if_pos (by rw [List.length_append]; omega)])
  rw [e2, Zx]
  simp only [keyOf_rsl, List.mem_singleton] at f2
  refine ⟨fun k h1 h2 => f2 k h1 (kT k h2).2.1, ?_⟩
  have ow2 : Own st2 1 w b.length (ofBytes b) := ow.move (by simp only; omega) (fun j hj _ => by
    have := hkw j hj
    rw [f2 j (by omega) (by omega), f1 j (by omega) (fun h => hne j h hj)]; rfl)
  have z2 : ∀ j, c + 40 ≤ j → st2.get j = none := fun j hj => by
    rw [f2 j (by omega) (by omega)]; exact z1 j (by omega)
  generalize hL2 : (b ++ varint n) ++ varint b.length ++ b = L2 at k2 e2
  have l2 : L2.length ≤ 2000 := by
    have h1 := varint_le n
    have h2 := varint_le b.length
    rw [← hL2]; simp only [List.length_append]; omega
  have u2 : OutOK st2 (.rsl (c + 32) 1 0 L2.length) L2 := .inr ⟨_, rfl, k2, by omega⟩
  (first | rw [WOC9_cons] | rw [WOC9_guard])
  (try simp (maxSteps := 2000000) (disch := first | omega | rfl | assumption) only [↓Xp, ↓Xt, Xq, Xc, binP, ofCells, Nat.reduceAdd, Nat.reduceMul, Nat.reduceLT, Nat.reduceEqDiff, reduceIte, Xa, Xn, unP, len_f, len_n, len_r, Xl, Nat.reduceLeDiff, okAt9_b, okAt9_w, okAt9_p, postAt_q, postAt_w, selfAt_f, selfAt_t, g0, g1, g9, g26, hz])
  (first | rw [WOC9_cons] | rw [WOC9_guard])
  (try simp (maxSteps := 2000000) (disch := first | omega | rfl | assumption) only [↓Xp, ↓Xt, Xq, Xc, binP, ofCells, Nat.reduceAdd, Nat.reduceMul, Nat.reduceLT, Nat.reduceEqDiff, reduceIte, Xa, Xn, unP, len_f, len_n, len_r, Xl, Nat.reduceLeDiff, okAt9_b, okAt9_w, okAt9_p, postAt_q, postAt_w, selfAt_f, selfAt_t, g0, g1, g9, g26, hz])
  (first | rw [WOC9_cons] | rw [WOC9_guard])
  (try simp (maxSteps := 2000000) (disch := first | omega | rfl | assumption) only [↓Xp, ↓Xt, Xq, Xc, binP, ofCells, Nat.reduceAdd, Nat.reduceMul, Nat.reduceLT, Nat.reduceEqDiff, reduceIte, Xa, Xn, unP, len_f, len_n, len_r, Xl, Nat.reduceLeDiff, okAt9_b, okAt9_w, okAt9_p, postAt_q, postAt_w, selfAt_f, selfAt_t, g0, g1, g9, g26, hz])
  simp only [Bool.true_or, Bool.or_false, okAt9, light9, postAt, quietB, pureB, loadB, b2sB, lightOp, selfAt_f, selfAt_t, if_true, Bool.false_eq_true, if_false, true_implies, Bool.or_true, false_implies, and_true, true_and, List.mem_cons, List.not_mem_nil, or_false, Bool.false_or, not_or, Z0I_, Z0K_]
  refine ⟨nT _ (by omega) (by omega) (by omega), ⟨same_i _ _, by rw [z2 _ (by omega)]; rfl⟩, nT _ (by omega) (by omega) (by omega), ⟨same_i _ _, by rw [z2 _ (by omega)]; rfl⟩, ?_⟩
  obtain ⟨st3, e3, k3, c3, f3⟩ := call_outW (g := runPure cfgL8 (evFn cfgL8 401) 14) (key := c + 56) (rest := [.i .i64 z]) (rest' := [.i .i64 z]) (l' := L2 ++ varint (foldN z)) u2 rfl (fun _ _ => rfl) (by
    intro v' hv'
    rw [runPure_ext (show cfgL8.ext 14 = some gInt from hxB3_gInt)]
    unfold gInt
    simp only [hv']
    rw [if_pos ⟨hz64.1, hz64.2, by unfold maxBytes; omega⟩])
  rw [e3, Zx]
  simp only [keyOf_rsl, List.mem_singleton] at f3
  refine ⟨fun k h1 h2 => f3 k h1 (kT k h2).2.2, ?_⟩
  have ow3 : Own st3 1 w b.length (ofBytes b) := ow.move (by simp only; omega) (fun j hj _ => by
    have := hkw j hj
    rw [f3 j (by omega) (by omega), f2 j (by omega) (by omega), f1 j (by omega) (fun h => hne j h hj)]; rfl)
  have z3 : ∀ j, c + 64 ≤ j → st3.get j = none := fun j hj => by
    rw [f3 j (by omega) (by omega)]; exact z2 j (by omega)
  generalize hL3 : L2 ++ varint (foldN z) = L3 at k3 e3
  have l3 : L3.length ≤ 2010 := by
    have h1 := varint_le (foldN z)
    rw [← hL3]; simp only [List.length_append]; omega
  have o3 : Own st3 1 (.rsl (c + 56) 1 0 L3.length) L3.length (ofBytes L3) := .inr ⟨_, rfl, k3, by rw [len_ofBytes, Nat.mul_one], by omega⟩
  have q3 := o3.cells
  have by1 := fun L => bytesOf_of L
  (first | rw [WOC9_cons] | rw [WOC9_guard])
  (try simp (maxSteps := 2000000) (disch := first | omega | rfl | assumption) only [↓Xp, ↓Xt, Xq, Xc, binP, ofCells, Nat.reduceAdd, Nat.reduceMul, Nat.reduceLT, Nat.reduceEqDiff, reduceIte, Xa, Xn, unP, len_f, len_n, len_r, Xl, Nat.reduceLeDiff, okAt9_b, okAt9_w, okAt9_p, postAt_q, postAt_w, selfAt_f, selfAt_t, g0, g1, g9, g26, hz, q3, by1, Option.map_some])
  (first | rw [WOC9_cons] | rw [WOC9_guard])
  (try simp (maxSteps := 2000000) (disch := first | omega | rfl | assumption) only [↓Xp, ↓Xt, Xq, Xc, binP, ofCells, Nat.reduceAdd, Nat.reduceMul, Nat.reduceLT, Nat.reduceEqDiff, reduceIte, Xa, Xn, unP, len_f, len_n, len_r, Xl, Nat.reduceLeDiff, okAt9_b, okAt9_w, okAt9_p, postAt_q, postAt_w, selfAt_f, selfAt_t, g0, g1, g9, g26, hz, q3, by1, Option.map_some])
  (first | rw [WOC9_cons] | rw [WOC9_guard])
  (try simp (maxSteps := 2000000) (disch := first | omega | rfl | assumption) only [↓Xp, ↓Xt, Xq, Xc, binP, ofCells, Nat.reduceAdd, Nat.reduceMul, Nat.reduceLT, Nat.reduceEqDiff, reduceIte, Xa, Xn, unP, len_f, len_n, len_r, Xl, Nat.reduceLeDiff, okAt9_b, okAt9_w, okAt9_p, postAt_q, postAt_w, selfAt_f, selfAt_t, g0, g1, g9, g26, hz, q3, by1, Option.map_some])
  (first | rw [WOC9_cons] | rw [WOC9_guard])
  (try simp (maxSteps := 2000000) (disch := first | omega | rfl | assumption) only [↓Xp, ↓Xt, Xq, Xc, binP, ofCells, Nat.reduceAdd, Nat.reduceMul, Nat.reduceLT, Nat.reduceEqDiff, reduceIte, Xa, Xn, unP, len_f, len_n, len_r, Xl, Nat.reduceLeDiff, okAt9_b, okAt9_w, okAt9_p, postAt_q, postAt_w, selfAt_f, selfAt_t, g0, g1, g9, g26, hz, q3, by1, Option.map_some])
  simp only [Bool.true_or, Bool.or_false, okAt9, light9, postAt, quietB, pureB, loadB, b2sB, lightOp, selfAt_f, selfAt_t, if_true, Bool.false_eq_true, if_false, true_implies, Bool.or_true, false_implies, and_true, true_and, List.mem_cons, List.not_mem_nil, or_false, Bool.false_or, not_or, Z0I_, Z0K_]
  have hdb : ∀ st, Go.Pe.deep st 12 (.fsl b.length (ofBytes b)) = some (.fsl b.length (ofBytes b)) := fun st => deep_in (in_fsl b)
  have sb : PV.same deepS (.fsl b.length (ofBytes b)) (.fsl b.length (ofBytes b)) = true := by
    unfold deepS PV.same
    simp only [beq_self_eq_true, Bool.true_and, decide_true]
    rw [zipD]
    intro p hp
    unfold ofBytes at hp
    obtain ⟨y, _, rfl⟩ := List.mem_map.1 hp
    unfold PV.same; simp
  refine ⟨⟨nT _ (by omega) (by omega) (by omega), fun st2 h => ?_⟩, ⟨same_s _, by rw [z3 _ (by omega)]; rfl⟩, nT _ (by omega) (by omega) (by omega), ⟨sb, by rw [z3 _ (by omega)]; rfl⟩, nT _ (by omega) (by omega) (by omega), ⟨same_i _ _, by rw [z3 _ (by omega)]; rfl⟩, ?_⟩
  · rw [← q3]
    unfold cellsOf
    simp only [h (c + 56) (by omega) (nT _ (by omega) (by omega) (by omega))]
  refine WV_callB (deepL_two (hdb _) rfl) (ruint_g (cfg := cfgL8) (callE := evFn cfgL8 401) hxB3_gRUint (in_fsl b) hn (by omega)) (by omega) ?_
  intro st4 o4 k4 c4 f4
  refine ⟨fun k h1 _ => f4 k h1, ?_⟩
  (first | rw [WOC9_cons] | rw [WOC9_guard])
  (try simp (maxSteps := 2000000) (disch := first | omega | rfl | assumption) only [↓Xp, ↓Xt, Xq, Xc, binP, ofCells, Nat.reduceAdd, Nat.reduceMul, Nat.reduceLT, Nat.reduceEqDiff, reduceIte, Xa, Xn, unP, len_f, len_n, len_r, Xl, Nat.reduceLeDiff, okAt9_b, okAt9_w, okAt9_p, postAt_q, postAt_w, selfAt_f, selfAt_t, g0, g1, g9, g26, hz])
  (first | rw [WOC9_cons] | rw [WOC9_guard])
  (try simp (maxSteps := 2000000) (disch := first | omega | rfl | assumption) only [↓Xp, ↓Xt, Xq, Xc, binP, ofCells, Nat.reduceAdd, Nat.reduceMul, Nat.reduceLT, Nat.reduceEqDiff, reduceIte, Xa, Xn, unP, len_f, len_n, len_r, Xl, Nat.reduceLeDiff, okAt9_b, okAt9_w, okAt9_p, postAt_q, postAt_w, selfAt_f, selfAt_t, g0, g1, g9, g26, hz])
  simp only [Bool.true_or, Bool.or_false, okAt9, light9, postAt, quietB, pureB, loadB, b2sB, lightOp, selfAt_f, selfAt_t, if_true, Bool.false_eq_true, if_false, true_implies, Bool.or_true, false_implies, and_true, true_and, List.mem_cons, List.not_mem_nil, or_false, Bool.false_or, not_or, Z0I_, Z0K_]
  refine ⟨nT _ (by omega) (by omega) (by omega), ⟨sb, by rw [f4 _ (by omega), z3 _ (by omega)]; rfl⟩, ?_⟩
  refine WV_callB (L := (b ++ varint n) ++ varint b.length ++ b) (deepL_two o4.deepV (hdb _)) (by
    rw [runPure_ext (show cfgL8.ext 32 = some gRBlob from hxB3_gRBlob)]
    unfold gRBlob
    simp only [o4.inV, in_fsl]
    have h1 := varint_le n
    rw [if_pos (by rw [List.length_append]; omega)]) (by omega) ?_
  rw [hL2]
  intro st5 o5 k5 c5 f5
  refine ⟨fun k h1 _ => f5 k h1, ?_⟩
  (first | rw [WOC9_cons] | rw [WOC9_guard])
  (try simp (maxSteps := 2000000) (disch := first | omega | rfl | assumption) only [↓Xp, ↓Xt, Xq, Xc, binP, ofCells, Nat.reduceAdd, Nat.reduceMul, Nat.reduceLT, Nat.reduceEqDiff, reduceIte, Xa, Xn, unP, len_f, len_n, len_r, Xl, Nat.reduceLeDiff, okAt9_b, okAt9_w, okAt9_p, postAt_q, postAt_w, selfAt_f, selfAt_t, g0, g1, g9, g26, hz])
  (first | rw [WOC9_cons] | rw [WOC9_guard])
  (try simp (maxSteps := 2000000) (disch := first | omega | rfl | assumption) only [↓Xp, ↓Xt, Xq, Xc, binP, ofCells, Nat.reduceAdd, Nat.reduceMul, Nat.reduceLT, Nat.reduceEqDiff, reduceIte, Xa, Xn, unP, len_f, len_n, len_r, Xl, Nat.reduceLeDiff, okAt9_b, okAt9_w, okAt9_p, postAt_q, postAt_w, selfAt_f, selfAt_t, g0, g1, g9, g26, hz])
  (first | rw [WOC9_cons] | rw [WOC9_guard])
  (try simp (maxSteps := 2000000) (disch := first | omega | rfl | assumption) only [↓Xp, ↓Xt, Xq, Xc, binP, ofCells, Nat.reduceAdd, Nat.reduceMul, Nat.reduceLT, Nat.reduceEqDiff, reduceIte, Xa, Xn, unP, len_f, len_n, len_r, Xl, Nat.reduceLeDiff, okAt9_b, okAt9_w, okAt9_p, postAt_q, postAt_w, selfAt_f, selfAt_t, g0, g1, g9, g26, hz])
  simp only [Bool.true_or, Bool.or_false, okAt9, light9, postAt, quietB, pureB, loadB, b2sB, lightOp, selfAt_f, selfAt_t, if_true, Bool.false_eq_true, if_false, true_implies, Bool.or_true, false_implies, and_true, true_and, List.mem_cons, List.not_mem_nil, or_false, Bool.false_or, not_or, Z0I_, Z0K_]
  refine ⟨nT _ (by omega) (by omega) (by omega), ⟨same_i _ _, by rw [f5 _ (by omega), f4 _ (by omega), z3 _ (by omega)]; rfl⟩, nT _ (by omega) (by omega) (by omega), ⟨same_i _ _, by rw [f5 _ (by omega), f4 _ (by omega), z3 _ (by omega)]; rfl⟩, ?_⟩
  refine WV_callB (L := L3) (deepL_two o5.deepV rfl) (by
    rw [← hL3]
    exact rint_g (cfg := cfgL8) (callE := evFn cfgL8 401) hxB3_gRInt o5.inV hz64 (by omega)) (by omega) ?_
  intro st6 o6 k6 c6 f6
  refine ⟨fun k h1 _ => f6 k h1, ?_⟩
  have q6 := o6.cells
  have ow6 : Own st6 1 w b.length (ofBytes b) := ow.move (by simp only; omega) (fun j hj _ => by
    have := hkw j hj
    rw [f6 j (by omega), f5 j (by omega), f4 j (by omega), f3 j (by omega) (by omega), f2 j (by omega) (by omega), f1 j (by omega) (fun h => hne j h hj)]; rfl)
  have qw6 := ow6.cells
  have qb6 : cellsOf st6 1 (.fsl b.length (ofBytes b)) = some (b.length, ofBytes b) := cells_in (in_fsl b)
  have ss : ∀ x : List UInt8, (x == x) = true := fun x => beq_self_eq_true x
  (first | rw [WOC9_cons] | rw [WOC9_guard])
  (try simp (maxSteps := 2000000) (disch := first | omega | rfl | assumption) only [↓Xp, ↓Xt, Xq, Xc, binP, ofCells, Nat.reduceAdd, Nat.reduceMul, Nat.reduceLT, Nat.reduceEqDiff, reduceIte, Xa, Xn, unP, len_f, len_n, len_r, Xl, Nat.reduceLeDiff, okAt9_b, okAt9_w, okAt9_p, postAt_q, postAt_w, selfAt_f, selfAt_t, g0, g1, g9, g26, hz, q6, qw6, qb6, by1, Option.map_some, ss])
  (first | rw [WOC9_cons] | rw [WOC9_guard])
  (try simp (maxSteps := 2000000) (disch := first | omega | rfl | assumption) only [↓Xp, ↓Xt, Xq, Xc, binP, ofCells, Nat.reduceAdd, Nat.reduceMul, Nat.reduceLT, Nat.reduceEqDiff, reduceIte, Xa, Xn, unP, len_f, len_n, len_r, Xl, Nat.reduceLeDiff, okAt9_b, okAt9_w, okAt9_p, postAt_q, postAt_w, selfAt_f, selfAt_t, g0, g1, g9, g26, hz, q6, qw6, qb6, by1, Option.map_some, ss])
  (first | rw [WOC9_cons] | rw [WOC9_guard])
  (try simp (maxSteps := 2000000) (disch := first | omega | rfl | assumption) only [↓Xp, ↓Xt, Xq, Xc, binP, ofCells, Nat.reduceAdd, Nat.reduceMul, Nat.reduceLT, Nat.reduceEqDiff, reduceIte, Xa, Xn, unP, len_f, len_n, len_r, Xl, Nat.reduceLeDiff, okAt9_b, okAt9_w, okAt9_p, postAt_q, postAt_w, selfAt_f, selfAt_t, g0, g1, g9, g26, hz, q6, qw6, qb6, by1, Option.map_some, ss])
  (first | rw [WOC9_cons] | rw [WOC9_guard])
  (try simp (maxSteps := 2000000) (disch := first | omega | rfl | assumption) only [↓Xp, ↓Xt, Xq, Xc, binP, ofCells, Nat.reduceAdd, Nat.reduceMul, Nat.reduceLT, Nat.reduceEqDiff, reduceIte, Xa, Xn, unP, len_f, len_n, len_r, Xl, Nat.reduceLeDiff, okAt9_b, okAt9_w, okAt9_p, postAt_q, postAt_w, selfAt_f, selfAt_t, g0, g1, g9, g26, hz, q6, qw6, qb6, by1, Option.map_some, ss])
  (first | rw [WOC9_cons] | rw [WOC9_guard])
  (try simp (maxSteps := 2000000) (disch := first | omega | rfl | assumption) only [↓Xp, ↓Xt, Xq, Xc, binP, ofCells, Nat.reduceAdd, Nat.reduceMul, Nat.reduceLT, Nat.reduceEqDiff, reduceIte, Xa, Xn, unP, len_f, len_n, len_r, Xl, Nat.reduceLeDiff, okAt9_b, okAt9_w, okAt9_p, postAt_q, postAt_w, selfAt_f, selfAt_t, g0, g1, g9, g26, hz, q6, qw6, qb6, by1, Option.map_some, ss])
  (first | rw [WOC9_cons] | rw [WOC9_guard])
  (try simp (maxSteps := 2000000) (disch := first | omega | rfl | assumption) only [↓Xp, ↓Xt, Xq, Xc, binP, ofCells, Nat.reduceAdd, Nat.reduceMul, Nat.reduceLT, Nat.reduceEqDiff, reduceIte, Xa, Xn, unP, len_f, len_n, len_r, Xl, Nat.reduceLeDiff, okAt9_b, okAt9_w, okAt9_p, postAt_q, postAt_w, selfAt_f, selfAt_t, g0, g1, g9, g26, hz, q6, qw6, qb6, by1, Option.map_some, ss])
  (first | rw [WOC9_cons] | rw [WOC9_guard])
  (try simp (maxSteps := 2000000) (disch := first | omega | rfl | assumption) only [↓Xp, ↓Xt, Xq, Xc, binP, ofCells, Nat.reduceAdd, Nat.reduceMul, Nat.reduceLT, Nat.reduceEqDiff, reduceIte, Xa, Xn, unP, len_f, len_n, len_r, Xl, Nat.reduceLeDiff, okAt9_b, okAt9_w, okAt9_p, postAt_q, postAt_w, selfAt_f, selfAt_t, g0, g1, g9, g26, hz, q6, qw6, qb6, by1, Option.map_some, ss])
  (first | rw [WOC9_cons] | rw [WOC9_guard])
  (try simp (maxSteps := 2000000) (disch := first | omega | rfl | assumption) only [↓Xp, ↓Xt, Xq, Xc, binP, ofCells, Nat.reduceAdd, Nat.reduceMul, Nat.reduceLT, Nat.reduceEqDiff, reduceIte, Xa, Xn, unP, len_f, len_n, len_r, Xl, Nat.reduceLeDiff, okAt9_b, okAt9_w, okAt9_p, postAt_q, postAt_w, selfAt_f, selfAt_t, g0, g1, g9, g26, hz, q6, qw6, qb6, by1, Option.map_some, ss])
  (first | rw [WOC9_cons] | rw [WOC9_guard])
  (try simp (maxSteps := 2000000) (disch := first | omega | rfl | assumption) only [↓Xp, ↓Xt, Xq, Xc, binP, ofCells, Nat.reduceAdd, Nat.reduceMul, Nat.reduceLT, Nat.reduceEqDiff, reduceIte, Xa, Xn, unP, len_f, len_n, len_r, Xl, Nat.reduceLeDiff, okAt9_b, okAt9_w, okAt9_p, postAt_q, postAt_w, selfAt_f, selfAt_t, g0, g1, g9, g26, hz, q6, qw6, qb6, by1, Option.map_some, ss])
  (first | rw [WOC9_cons] | rw [WOC9_guard])
  (try simp (maxSteps := 2000000) (disch := first | omega | rfl | assumption) only [↓Xp, ↓Xt, Xq, Xc, binP, ofCells, Nat.reduceAdd, Nat.reduceMul, Nat.reduceLT, Nat.reduceEqDiff, reduceIte, Xa, Xn, unP, len_f, len_n, len_r, Xl, Nat.reduceLeDiff, okAt9_b, okAt9_w, okAt9_p, postAt_q, postAt_w, selfAt_f, selfAt_t, g0, g1, g9, g26, hz, q6, qw6, qb6, by1, Option.map_some, ss])
  simp only [Bool.true_or, Bool.or_false, okAt9, light9, postAt, quietB, pureB, loadB, b2sB, lightOp, selfAt_f, selfAt_t, if_true, Bool.false_eq_true, if_false, true_implies, Bool.or_true, false_implies, and_true, true_and, List.mem_cons, List.not_mem_nil, or_false, Bool.false_or, not_or, Z0I_, Z0K_]
  refine ⟨nT _ (by omega) (by omega) (by omega), nT _ (by omega) (by omega) (by omega), nT _ (by omega) (by omega) (by omega), nT _ (by omega) (by omega) (by omega), nT _ (by omega) (by omega) (by omega), nT _ (by omega) (by omega) (by omega), nT _ (by omega) (by omega) (by omega), nT _ (by omega) (by omega) (by omega), nT _ (by omega) (by omega) (by omega), nT _ (by omega) (by omega) (by omega), ?_⟩
  have aw : ∀ (st : St) (key : Nat), callStep (runPure cfgL8 (evFn cfgL8 401) 10) false st key [] = some (.b true, st) := fun st key => by
    refine callStep_flat rfl ?_ rfl
    rw [runPure_ext (show cfgL8.ext 10 = some gAwakeB from hxB3_gAwakeB)]
    rfl
  have t4 := fun key => aw st6 key
  (first | rw [WOC9_cons] | rw [WOC9_guard])
  (try simp (maxSteps := 2000000) (disch := first | omega | rfl | assumption) only [↓Xp, ↓Xt, Xq, Xc, binP, ofCells, Nat.reduceAdd, Nat.reduceMul, Nat.reduceLT, Nat.reduceEqDiff, reduceIte, Xa, Xn, unP, len_f, len_n, len_r, Xl, Nat.reduceLeDiff, okAt9_b, okAt9_w, okAt9_p, postAt_q, postAt_w, selfAt_f, selfAt_t, g0, g1, g9, g26, hz, t4])
  (first | rw [WOC9_cons] | rw [WOC9_guard])
  (try simp (maxSteps := 2000000) (disch := first | omega | rfl | assumption) only [↓Xp, ↓Xt, Xq, Xc, binP, ofCells, Nat.reduceAdd, Nat.reduceMul, Nat.reduceLT, Nat.reduceEqDiff, reduceIte, Xa, Xn, unP, len_f, len_n, len_r, Xl, Nat.reduceLeDiff, okAt9_b, okAt9_w, okAt9_p, postAt_q, postAt_w, selfAt_f, selfAt_t, g0, g1, g9, g26, hz, t4])
  (first | rw [WOC9_cons] | rw [WOC9_guard])
  (try simp (maxSteps := 2000000) (disch := first | omega | rfl | assumption) only [↓Xp, ↓Xt, Xq, Xc, binP, ofCells, Nat.reduceAdd, Nat.reduceMul, Nat.reduceLT, Nat.reduceEqDiff, reduceIte, Xa, Xn, unP, len_f, len_n, len_r, Xl, Nat.reduceLeDiff, okAt9_b, okAt9_w, okAt9_p, postAt_q, postAt_w, selfAt_f, selfAt_t, g0, g1, g9, g26, hz, t4])
  simp only [Bool.true_or, Bool.or_false, okAt9, light9, postAt, quietB, pureB, loadB, b2sB, lightOp, selfAt_f, selfAt_t, if_true, Bool.false_eq_true, if_false, true_implies, Bool.or_true, false_implies, and_true, true_and, List.mem_cons, List.not_mem_nil, or_false, Bool.false_or, not_or, Z0I_, Z0K_]
  refine ⟨fun _ _ _ => trivial, nT _ (by omega) (by omega) (by omega), nT _ (by omega) (by omega) (by omega), ?_⟩
  rw [WOC9_nil]
  refine hQ _ _ ?_
  simp (disch := first | omega | rfl | assumption) only [↓Xp, ↓Xt, Xq, Xc, binP, ofCells, Nat.reduceAdd, Nat.reduceMul, Nat.reduceLT, Nat.reduceEqDiff, reduceIte, Xa, Xn, unP, len_f, len_n, len_r]
end Go.Pe
