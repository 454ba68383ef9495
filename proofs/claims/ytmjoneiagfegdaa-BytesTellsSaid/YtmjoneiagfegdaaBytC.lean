/-
  BytesTells, by the interpreter of plain data. No condition.
-/
import Derived.Test.YtmjoneiagfegdaaBytE
import Derived.Test.YtmjoneiagfegdaaView
set_option linter.unusedVariables false
set_option linter.unusedSimpArgs false
namespace Go.Pe
open Go Go.Am Go.RowKit

def Src (st : St) (w : PV) (b : List UInt8) : Prop := w = .fsl b.length (ofBytes b) ∨ Own st 1 w b.length (ofBytes b)
theorem Src.move {st st' : St} {w : PV} {b : List UInt8} (h : Src st w b) (hc : st.cnt ≤ st'.cnt) (hg : ∀ j, j < st.cnt → st'.get j = st.get j) : Src st' w b := by
  rcases h with h | h
  · exact .inl h
  · exact .inr (h.move hc fun j _ hj => hg j hj)
theorem Src.over {s0 st st' : St} {key : Nat} {w : PV} {b : List UInt8} (h : Src s0 w b) (f : ∀ j, j ≠ key → st'.get j = st.get j) (hs : st.sto = s0.sto) (hk : s0.cnt ≤ key) (hc : s0.cnt ≤ st'.cnt) : Src st' w b := by
  rcases h with h | h
  · exact .inl h
  · exact .inr (h.over f hs hk hc)
theorem Src.cnt {sto : Trie PObj} {c c' : Nat} {w : PV} {b : List UInt8} (h : Src ⟨sto, c⟩ w b) (hc : c ≤ c') : Src ⟨sto, c'⟩ w b := by
  rcases h with h | h
  · exact .inl h
  · exact .inr (h.cnt hc)
theorem Src.cells {st : St} {w : PV} {b : List UInt8} (h : Src st w b) : cellsOf st 1 w = some (b.length, ofBytes b) := by
  rcases h with rfl | h
  · exact cells_in (in_fsl b)
  · exact h.cells
def OutW (u : PV) (m : List UInt8) : Prop := OutV u 1 m.length (ofBytes m) ∨ (u = .fsl 0 [] ∧ m = [])
theorem outV_W (m : List UInt8) : OutW (outV m) m := by
  unfold outV
  split
  · rename_i h; exact .inr ⟨rfl, h⟩
  · exact .inl (OutV.osl _ _ _)
theorem WV_callW {g : List PV → Option PV} {st : St} {key : Nat} {ps ps' post : List PV} {u : PV} {m : List UInt8} {Q : PV → St → Prop} (hd : deepL st ps = some ps') (hg : g ps' = some (.tup (u :: post))) (ho : OutW u m) (h2 : post.all PV.scal = true) (hk : key < st.cnt) (hc0 : PV.closedB (.tup (.fsl 0 [] :: post)) = true) (hr0 : ∀ st key, recvRes st key (.tup (.fsl 0 [] :: post)) = some (.tup (.fsl 0 [] :: post), st))
    (q : ∀ v' st', Src st' v' m → st'.cnt = st.cnt → (∀ j, j ≠ key → st'.get j = st.get j) → Q (.tup (v' :: post)) st') : WV (callStep g false st key ps) Q := by
  rcases ho with ho | ⟨rfl, rfl⟩
  · refine WV_callT (pre := []) hd hg ho rfl h2 (clO_bytes m) (by rw [len_ofBytes, Nat.mul_one]) hk ?_
    intro v' st' o _ c f
    exact q v' st' (.inr o) c f
  · refine ⟨_, st, ?_, q (.fsl 0 []) st (.inl rfl) rfl (fun _ _ => rfl)⟩
    unfold callStep
    simp only [hd, hg, hc0, if_true, hr0]
theorem blob_form (l : List UInt8) (a most : Int) : ∃ (m : List UInt8) (u u2 : PV) (n e : Int), blobV l a most = .tup (u :: [.i .i64 n, .i .i64 e]) ∧ rblobV l a most = .tup (u2 :: [.i .i64 n, .i .i64 e]) ∧ OutW u m ∧ OutW u2 m := by
  unfold blobV rblobV
  cases blobR l a most with
  | inl p => exact ⟨p.1, _, _, _, _, rfl, rfl, outV_W _, .inl (OutV.osl _ _ _)⟩
  | inr e => exact ⟨[], _, _, _, _, rfl, rfl, .inl (OutV.nil 1), .inl (OutV.nil 1)⟩
theorem unseal_form (l : List UInt8) : ∃ (m : List UInt8) (u u2 : PV) (e : Int), unsealV l = .tup (u :: [.i .i64 e]) ∧ rUnsealV l = .tup (u2 :: [.i .i64 e]) ∧ OutW u m ∧ OutW u2 m := by
  unfold unsealV rUnsealV
  split
  · exact ⟨[], _, _, _, rfl, rfl, .inl (OutV.nil 1), .inl (OutV.nil 1)⟩
  split
  · refine ⟨l.take (l.length - 4), _, _, _, rfl, rfl, outV_W _, ?_⟩
    have : (l.take (l.length - 4)).length = l.length - 4 := by rw [List.length_take]; omega
    exact .inl (.inr (by rw [this]))
  · exact ⟨[], _, _, _, rfl, rfl, .inl (OutV.nil 1), .inl (OutV.nil 1)⟩
set_option maxHeartbeats 8000000 in
set_option maxRecDepth 100000 in
theorem btells_ev {n : Nat} {b : List UInt8} {a most : Int} (hn : n < 18446744073709551616) (ha : in64 a) (hm : in64 most) : ∃ fuel, evP cfgL8 fuel 8 [.i .u64 (n : Int), .fsl b.length (ofBytes b), .i .i64 a, .i .i64 most] = some (.b true) := by
  refine ⟨401 + 1, ev_flat rfl rfl (fun _ => rfl) (evFn_W (by kernel_rfl : cfgL8.fn 8 = some m8) ?_)⟩
  unfold m8
  have aw : ∀ (st : St) (key : Nat), callStep (runPure cfgL8 (evFn cfgL8 401) 10) false st key [] = some (.b true, st) := fun st key => callStep_flat rfl (by rw [runPure_ext (show cfgL8.ext 10 = some gAwakeB from hxB3_gAwakeB)]; rfl) rfl
  by_cases z0 : 700 < b.length
  · simp (disch := first | omega | rfl | assumption) only [putArgs, ↓Z0, ↓Xp, ↓Xt, Xq, Xc, binP, ofCells, Nat.reduceAdd, Nat.reduceMul, Nat.reduceLT, Nat.reduceEqDiff, reduceIte, Xm, Nat.reduceLeDiff, Xa, Xn, unP, len_f, len_n, len_r, aw]
    refine ⟨nofun, _, rfl, ?_⟩
    simp only [tupV, ↓Z0, ↓Xp, ↓Xt, Xq, Xc, binP, ofCells, Nat.reduceAdd, Nat.reduceMul, Nat.reduceLT, Nat.reduceEqDiff, reduceIte]
  have hdb : ∀ (st : St), Go.Pe.deep st 12 (.fsl b.length (ofBytes b)) = some (.fsl b.length (ofBytes b)) := fun st => deep_in (in_fsl b)
  have hdi : ∀ (st : St) (x : Int), Go.Pe.deep st 12 (.i .i64 x) = some (.i .i64 x) := fun st x => rfl
  have hcb : ∀ st, cellsOf st 1 (.fsl b.length (ofBytes b)) = some (b.length, ofBytes b) := fun st => cells_in (in_fsl b)
  have hob := one_ofBytes b
  have hst0 : Top ({ sto := .leaf, cnt := 1 } : St) := fun k _ => by rw [Z0K_]
  simp only [putArgs]
  refine WC_cutT (cfgL8_ok (Gl := fun _ _ => none)) hst0 (fun x => x.env.get 0 = .i .u64 (n : Int) ∧ x.env.get 1 = .fsl b.length (ofBytes b) ∧ x.env.get 2 = .i .i64 a ∧ x.env.get 3 = .i .i64 most) ?_ ?_
  · simp (disch := first | omega | rfl | assumption) only [↓Z0, ↓Xp, ↓Xt, Xq, Xc, binP, ofCells, Nat.reduceAdd, Nat.reduceMul, Nat.reduceLT, Nat.reduceEqDiff, reduceIte, Xl, Nat.reduceLeDiff]
  clear hst0
  rintro ⟨env, ⟨sto, c⟩⟩ ⟨g0, g1, g2, g3⟩ ht
  simp only at g0 g1 g2 g3 ht
  refine WC_cutT (cfgL8_ok (Gl := fun _ _ => none)) ht (fun x => x.env.get 0 = .i .u64 (n : Int) ∧ x.env.get 1 = .fsl b.length (ofBytes b) ∧ x.env.get 2 = .i .i64 a ∧ x.env.get 3 = .i .i64 most) ?_ ?_
  · simp (disch := first | omega | rfl | assumption) only [↓Z0, ↓Xp, ↓Xt, Xq, Xc, binP, ofCells, Nat.reduceAdd, Nat.reduceMul, Nat.reduceLT, Nat.reduceEqDiff, reduceIte, Xl, Nat.reduceLeDiff, Xa, Xn, len_f, g0, g1, g2, g3]
  clear g0 g1 g2 g3 ht
  rintro ⟨env, ⟨sto, c⟩⟩ ⟨g0, g1, g2, g3⟩ ht
  simp only at g0 g1 g2 g3 ht
  refine WC_cutT (cfgL8_ok (Gl := fun _ _ => none)) ht (fun x => ∃ w, x.env.get 0 = .i .u64 (n : Int) ∧ x.env.get 1 = .fsl b.length (ofBytes b) ∧ x.env.get 2 = .i .i64 a ∧ x.env.get 3 = .i .i64 most ∧ x.env.get 9 = w ∧ Own x.st 1 w b.length (ofBytes b)) ?_ ?_
  · simp (disch := first | omega | rfl | assumption) only [↓Z0, ↓Xp, ↓Xt, Xq, Xc, binP, ofCells, Nat.reduceAdd, Nat.reduceMul, Nat.reduceLT, Nat.reduceEqDiff, reduceIte, Xl, Nat.reduceLeDiff, g0, g1, g2, g3, hcb, hob]
    have oz : ∀ (S : St) (key : Nat), key < S.cnt → Own (S.put key (some (.cells [] false))) 1 (.rsl key 1 0 0) 0 [] := fun S key h => .inr ⟨key, rfl, St.get_putk _ _ _, rfl, h⟩
    refine WV_appO (oz _ _ (by first | omega | (simp only [Z0L_, Z0M_, Nat.add_assoc, Nat.reduceAdd]; omega) | (simp only; omega))) (by first | omega | (simp only [Z0L_, Z0M_, Nat.add_assoc, Nat.reduceAdd]; omega) | (simp only; omega)) (by simp only [keyOf_rsl, List.mem_singleton]; omega) (m := b.length) (by rw [len_ofBytes, Nat.mul_one]) (by decide) (by unfold maxBytes; omega) ?_
    intro w st1 o1 c1 _ _
    rw [Nat.zero_add, List.nil_append] at o1
    exact ⟨_, rfl, o1⟩
  clear g0 g1 g2 g3 ht
  rintro ⟨env, ⟨sto, c⟩⟩ ⟨w, g0, g1, g2, g3, g9, o1⟩ ht
  simp only at g0 g1 g2 g3 g9 ht
  have kGU := fun {st : St} {key : Nat} {v v' : PV} (hd : deepL st [v, .i .i64 a] = some [v', .i .i64 a]) (hv : inL v' = some b) => (call_deepb (key := key) hd (show runPure cfgL8 (evFn cfgL8 401) 12 [v', .i .i64 a] = some (getT (getU b a)) from by
    rw [runPure_ext (show cfgL8.ext 12 = some gGetU from hxB3_gGetU)]
    unfold gGetU
    simp only [hv]
    rw [if_pos (by omega)]) rfl rfl : callStep _ false st key [v, .i .i64 a] = some (getT (getU b a), st))
  have kGI := fun {st : St} {key : Nat} {v v' : PV} (hd : deepL st [v, .i .i64 a] = some [v', .i .i64 a]) (hv : inL v' = some b) => (call_deepb (key := key) hd (show runPure cfgL8 (evFn cfgL8 401) 13 [v', .i .i64 a] = some (getIT (getI b a)) from by
    rw [runPure_ext (show cfgL8.ext 13 = some gGetI from hxB3_gGetI)]
    unfold gGetI
    simp only [hv]
    rw [if_pos (by omega)]) rfl rfl : callStep _ false st key [v, .i .i64 a] = some (getIT (getI b a), st))
  have cru := fun st key => rgetu_k (cfg := cfgL8) (callE := evFn cfgL8 401) hxB3_gRGetU (in_fsl b) (by omega) st key a
  have cri := fun st key => rgeti_k (cfg := cfgL8) (callE := evFn cfgL8 401) hxB3_gRGetI (in_fsl b) (by omega) st key a
  have tGU := fun M (hM : c ≤ M) key => kGU (st := ⟨sto, M⟩) (key := key) (deepL_two (o1.cnt hM).deepV (hdi _ _)) o1.inV
  have tGI := fun M (hM : c ≤ M) key => kGI (st := ⟨sto, M⟩) (key := key) (deepL_two (o1.cnt hM).deepV (hdi _ _)) o1.inV
  unfold getT at tGU
  unfold getIT at tGI
  have nn : ∀ x : Int, (x != x) = false := fun x => by simp
  have ee : ∀ x : Int, (x == x) = true := fun x => by simp
  have ns : ∀ l : List UInt8, (l == l) = true := fun l => beq_self_eq_true l
  refine WC_hold fun K hK => ?_
  simp (disch := first | omega | rfl | assumption) only [↓Xp, ↓Xt, Xq, Xc, binP, ofCells, Nat.reduceAdd, Nat.reduceMul, Nat.reduceLT, Nat.reduceEqDiff, reduceIte, Xa, Xn, unP, len_f, len_n, len_r, Xl, Nat.reduceLeDiff, g0, g1, g2, g3, g9, tGU]
  refine hK _ ?_
  clear hK K
  refine WC_hold fun K hK => ?_
  simp (disch := first | omega | rfl | assumption) only [↓Xp, ↓Xt, Xq, Xc, binP, ofCells, Nat.reduceAdd, Nat.reduceMul, Nat.reduceLT, Nat.reduceEqDiff, reduceIte, Xa, Xn, unP, len_f, len_n, len_r, Xl, Nat.reduceLeDiff, g0, g1, g2, g3, g9, cru]
  refine hK _ ?_
  clear hK K
  refine WC_hold fun K hK => ?_
  simp (disch := first | omega | rfl | assumption) only [↓Xp, ↓Xt, Xq, Xc, binP, ofCells, Nat.reduceAdd, Nat.reduceMul, Nat.reduceLT, Nat.reduceEqDiff, reduceIte, Xa, Xn, unP, len_f, len_n, len_r, Xl, Nat.reduceLeDiff, g0, g1, g2, g3, g9, tGI]
  refine hK _ ?_
  clear hK K
  refine WC_hold fun K hK => ?_
  simp (disch := first | omega | rfl | assumption) only [↓Xp, ↓Xt, Xq, Xc, binP, ofCells, Nat.reduceAdd, Nat.reduceMul, Nat.reduceLT, Nat.reduceEqDiff, reduceIte, Xa, Xn, unP, len_f, len_n, len_r, Xl, Nat.reduceLeDiff, g0, g1, g2, g3, g9, cri]
  refine hK _ ?_
  clear hK K
  refine WC_hold fun K hK => ?_
  simp (disch := first | omega | rfl | assumption) only [↓Z0, ↓Xp, ↓Xt, Xq, Xc, binP, ofCells, Nat.reduceAdd, Nat.reduceMul, Nat.reduceLT, Nat.reduceEqDiff, reduceIte, Xa, Xn, unP, len_f, len_n, len_r, Xl, Nat.reduceLeDiff, g0, g1, g2, g3, g9, nn]
  refine hK _ ?_
  clear hK K
  obtain ⟨m1, u1, v1, n1, e1, hb1, hb2, ow1, ow2⟩ := blob_form b a most
  obtain ⟨m2, u2, v2, e2, hb3, hb4, ow3, ow4⟩ := unseal_form b
  have in3 : ∀ {v : PV}, inL v = some b → runPure cfgL8 (evFn cfgL8 401) 22 [v, .i .i64 a, .i .i64 most] = some (.tup (u1 :: [.i .i64 n1, .i .i64 e1])) := fun hv => by
    rw [runPure_ext (show cfgL8.ext 22 = some gGetBlob from hxB3_gGetBlob), ← hb1]
    unfold gGetBlob
    simp only [hv]
    rw [if_pos ⟨by omega, hm.1, hm.2⟩]
  have in4 : runPure cfgL8 (evFn cfgL8 401) 25 [.fsl b.length (ofBytes b), .i .i64 a, .i .i64 most] = some (.tup (v1 :: [.i .i64 n1, .i .i64 e1])) := by
    rw [runPure_ext (show cfgL8.ext 25 = some gRGetBlob from hxB3_gRGetBlob), ← hb2]
    unfold gRGetBlob
    simp only [in_fsl]
    rw [if_pos ⟨by omega, hm.1, hm.2⟩]
  have in5 : ∀ {v : PV}, inL v = some b → runPure cfgL8 (evFn cfgL8 401) 18 [v] = some (.tup (u2 :: [.i .i64 e2])) := fun hv => by
    rw [runPure_ext (show cfgL8.ext 18 = some gUnseal from hxB3_gUnseal), ← hb3]
    unfold gUnseal
    simp only [hv]
    rw [if_pos (by omega)]
  have in6 : runPure cfgL8 (evFn cfgL8 401) 26 [.fsl b.length (ofBytes b)] = some (.tup (v2 :: [.i .i64 e2])) := by
    rw [runPure_ext (show cfgL8.ext 26 = some gRUnseal from hxB3_gRUnseal), ← hb4]
    unfold gRUnseal
    simp only [in_fsl]
    rw [if_pos (by omega)]
  refine WC_hold fun K hK => ?_
  simp (disch := first | omega | rfl | assumption) only [↓Xp, ↓Xt, Xq, Xc, binP, ofCells, Nat.reduceAdd, Nat.reduceMul, Nat.reduceLT, Nat.reduceEqDiff, reduceIte, Xa, Xn, unP, len_f, len_n, len_r, Xl, Nat.reduceLeDiff, g0, g1, g2, g3, g9]
  refine WV_callW (deep_3 (o1.cnt (by omega)).deepV rfl rfl) (in3 o1.inV) ow1 rfl (by first | omega | (simp only [Z0L_, Z0M_, Nat.add_assoc, Nat.reduceAdd]; omega) | (simp only; omega)) rfl (fun _ _ => rfl) ?_
  intro w1 st1 p1 c1 f1
  (try simp only [Z0M_] at c1)
  simp (disch := first | omega | rfl | assumption) only [↓Xp, ↓Xt, Xq, Xc, binP, ofCells, Nat.reduceAdd, Nat.reduceMul, Nat.reduceLT, Nat.reduceEqDiff, reduceIte, Xa, Xn, unP, len_f, len_n, len_r, Xl, Nat.reduceLeDiff]
  refine hK _ ?_
  clear hK K
  replace o1 := o1.over f1 rfl (by simp only; omega) (by simp only; omega)
  refine WC_hold fun K hK => ?_
  simp (disch := first | omega | rfl | assumption) only [↓Xp, ↓Xt, Xq, Xc, binP, ofCells, Nat.reduceAdd, Nat.reduceMul, Nat.reduceLT, Nat.reduceEqDiff, reduceIte, Xa, Xn, unP, len_f, len_n, len_r, Xl, Nat.reduceLeDiff, g0, g1, g2, g3, g9]
  refine WV_callW (deep_3 (hdb _) rfl rfl) in4 ow2 rfl (by first | omega | (simp only [Z0L_, Z0M_, Nat.add_assoc, Nat.reduceAdd]; omega) | (simp only; omega)) rfl (fun _ _ => rfl) ?_
  intro w2 st2 p2 c2 f2
  (try simp only [Z0M_] at c2)
  simp (disch := first | omega | rfl | assumption) only [↓Xp, ↓Xt, Xq, Xc, binP, ofCells, Nat.reduceAdd, Nat.reduceMul, Nat.reduceLT, Nat.reduceEqDiff, reduceIte, Xa, Xn, unP, len_f, len_n, len_r, Xl, Nat.reduceLeDiff]
  refine hK _ ?_
  clear hK K
  replace o1 := o1.over f2 rfl (by first | omega | (simp only; omega)) (by first | omega | (simp only; omega))
  replace p1 := p1.over f2 rfl (by first | omega | (simp only; omega)) (by first | omega | (simp only; omega))
  refine WC_hold fun K hK => ?_
  simp (disch := first | omega | rfl | assumption) only [↓Xp, ↓Xt, Xq, Xc, binP, ofCells, Nat.reduceAdd, Nat.reduceMul, Nat.reduceLT, Nat.reduceEqDiff, reduceIte, Xa, Xn, unP, len_f, len_n, len_r, Xl, Nat.reduceLeDiff, g0, g1, g2, g3, g9]
  refine WV_callW (deepL_one (o1.cnt (by omega)).deepV) (in5 o1.inV) ow3 rfl (by first | omega | (simp only [Z0L_, Z0M_, Nat.add_assoc, Nat.reduceAdd]; omega) | (simp only; omega)) rfl (fun _ _ => rfl) ?_
  intro w3 st3 p3 c3 f3
  (try simp only [Z0M_] at c3)
  simp (disch := first | omega | rfl | assumption) only [↓Xp, ↓Xt, Xq, Xc, binP, ofCells, Nat.reduceAdd, Nat.reduceMul, Nat.reduceLT, Nat.reduceEqDiff, reduceIte, Xa, Xn, unP, len_f, len_n, len_r, Xl, Nat.reduceLeDiff]
  refine hK _ ?_
  clear hK K
  replace o1 := o1.over f3 rfl (by first | omega | (simp only; omega)) (by first | omega | (simp only; omega))
  replace p1 := p1.over f3 rfl (by first | omega | (simp only; omega)) (by first | omega | (simp only; omega))
  replace p2 := p2.over f3 rfl (by first | omega | (simp only; omega)) (by first | omega | (simp only; omega))
  refine WC_hold fun K hK => ?_
  simp (disch := first | omega | rfl | assumption) only [↓Xp, ↓Xt, Xq, Xc, binP, ofCells, Nat.reduceAdd, Nat.reduceMul, Nat.reduceLT, Nat.reduceEqDiff, reduceIte, Xa, Xn, unP, len_f, len_n, len_r, Xl, Nat.reduceLeDiff, g0, g1, g2, g3, g9]
  refine WV_callW (deepL_one (hdb _)) in6 ow4 rfl (by first | omega | (simp only [Z0L_, Z0M_, Nat.add_assoc, Nat.reduceAdd]; omega) | (simp only; omega)) rfl (fun _ _ => rfl) ?_
  intro w4 st4 p4 c4 f4
  (try simp only [Z0M_] at c4)
  simp (disch := first | omega | rfl | assumption) only [↓Xp, ↓Xt, Xq, Xc, binP, ofCells, Nat.reduceAdd, Nat.reduceMul, Nat.reduceLT, Nat.reduceEqDiff, reduceIte, Xa, Xn, unP, len_f, len_n, len_r, Xl, Nat.reduceLeDiff]
  refine hK _ ?_
  clear hK K
  replace o1 := o1.over f4 rfl (by first | omega | (simp only; omega)) (by first | omega | (simp only; omega))
  replace p1 := p1.over f4 rfl (by first | omega | (simp only; omega)) (by first | omega | (simp only; omega))
  replace p2 := p2.over f4 rfl (by first | omega | (simp only; omega)) (by first | omega | (simp only; omega))
  replace p3 := p3.over f4 rfl (by first | omega | (simp only; omega)) (by first | omega | (simp only; omega))
  have q1 := fun M (hM : st4.cnt ≤ M) => (p1.cnt hM).cells
  have q2 := fun M (hM : st4.cnt ≤ M) => (p2.cnt hM).cells
  have q3 := fun M (hM : st4.cnt ≤ M) => (p3.cnt hM).cells
  have q4 := fun M (hM : st4.cnt ≤ M) => (p4.cnt hM).cells
  have hbo1 := bytesOf_of m1
  have hbo2 := bytesOf_of m2
  refine WC_hold fun K hK => ?_
  simp (disch := first | omega | rfl | assumption) only [↓Z0, ↓Xp, ↓Xt, Xq, Xc, binP, ofCells, Nat.reduceAdd, Nat.reduceMul, Nat.reduceLT, Nat.reduceEqDiff, reduceIte, Xa, Xn, unP, len_f, len_n, len_r, Xl, Nat.reduceLeDiff, g0, g1, g2, g3, g9, nn, ns, q1, q2, q3, q4, hbo1, hbo2, Option.map_some, Bool.not_true]
  refine hK _ ?_
  clear hK K
  refine btail_ev (b := b) (n := n) (w := w) ?_ ?_ ?_ (o1.cnt (by omega)) (fun j hj => ?_) (by omega) hn (fun env' st' h8 => ?_)
  · simp (disch := first | omega | rfl | assumption) only [↓Xp, ↓Xt, Xq, Xc, binP, ofCells, Nat.reduceAdd, Nat.reduceMul, Nat.reduceLT, Nat.reduceEqDiff, reduceIte, Xa, Xn, unP, len_f, len_n, len_r, g0]
  · simp (disch := first | omega | rfl | assumption) only [↓Xp, ↓Xt, Xq, Xc, binP, ofCells, Nat.reduceAdd, Nat.reduceMul, Nat.reduceLT, Nat.reduceEqDiff, reduceIte, Xa, Xn, unP, len_f, len_n, len_r, g1]
  · simp (disch := first | omega | rfl | assumption) only [↓Xp, ↓Xt, Xq, Xc, binP, ofCells, Nat.reduceAdd, Nat.reduceMul, Nat.reduceLT, Nat.reduceEqDiff, reduceIte, Xa, Xn, unP, len_f, len_n, len_r, g9]
  · have hj := show st4.cnt + 216 ≤ j from hj
    rw [Z0J_, f4 j (by omega), Z0J_, f3 j (by omega), Z0J_, f2 j (by omega), Z0J_, f1 j (by omega)]
    exact ht j (by show c ≤ j; omega)
  · refine ⟨nofun, _, rfl, ?_⟩
    simp only [tupV, h8]
end Go.Pe
