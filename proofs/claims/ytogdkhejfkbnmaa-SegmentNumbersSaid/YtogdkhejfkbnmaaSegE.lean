/-
  Segments: the denser coding read, by the interpreter of plain data. No condition.
-/
import Derived.Test.YtogdkhejfkbnmaaSegD
set_option linter.unusedVariables false
set_option linter.unusedSimpArgs false
namespace Go.Pe
open Go Go.Am Go.RowKit

def colsD (m : List UInt8) : List Nat → Int → List Ev → Option (List Ev × Int)
  | [], a, L => some (L, a)
  | k :: ks, a, L => match colV m k L.length L.length 0 0 true a with
    | none => none
    | some (vs, a') => colsD m ks a' (setC k L vs)
def ksF : Nat → List Nat
  | 0 => [0, 1, 2, 3, 4]
  | 1 => [1, 2, 3, 4]
  | 2 => [2, 3, 4]
  | 3 => [3, 4]
  | 4 => [4]
  | _ => []
theorem ksF_step {k : Nat} (hk : k < 5) : ksF k = k :: ksF (k + 1) := by
  match k, hk with
  | 0, _ => rfl
  | 1, _ => rfl
  | 2, _ => rfl
  | 3, _ => rfl
  | 4, _ => rfl
def denseR (m : List UInt8) : Option (Nat × List Ev) :=
  if (m.take 4 == amd1) = false then none
  else if (getU m 4).2.2 ≠ 0 ∨ 4611686018427387904 < (getU m 4).1 then none
  else if (getU m (getU m 4).2.1).2.2 ≠ 0 ∨ (getU m (getU m 4).2.1).1 < 1 ∨ 1048576 < (getU m (getU m 4).2.1).1 then none
  else match colsD m (ksF 0) (getU m (getU m 4).2.1).2.1 (List.replicate (getU m (getU m 4).2.1).1 .zero) with
    | none => none
    | some (L, a) => if a < (m.length : Int) then none else some ((getU m 4).1, L)
def unpackR (b : List UInt8) : Sum (Nat × List Ev) Int :=
  if b.length < 4 then .inr 11
  else if sealB (b.take (b.length - 4)) = b then (match denseR (b.take (b.length - 4)) with | some x => .inl x | none => .inr 10)
  else .inr 12
def unpackV (b : List UInt8) : PV := match unpackR b with
  | .inl (n, L) => .tup [.i .i64 (n : Int), .osl 5 L.length (evsC L), .i .i64 0]
  | .inr e => .tup [.i .i64 0, .nsl, .i .i64 e]
theorem evs_zeros (n : Nat) : List.flatten (List.replicate n [PV.i .i64 (Int.ofNat 0), .i .u8 (Int.ofNat 0), .i .i64 (Int.ofNat 0), .i .i64 (Int.ofNat 0), .i .i64 (Int.ofNat 0)]) = evsC (List.replicate n .zero) := by
  induction n with
  | zero => rfl
  | succ n ih => rw [List.replicate_succ, List.flatten_cons, ih, List.replicate_succ]; rfl
theorem clO_evs (L : List Ev) : clO (evsC L) = true := by
  unfold clO
  rw [List.all_eq_true]
  intro p hp
  simp only [evsC, List.mem_flatMap] at hp
  obtain ⟨e, _, hp⟩ := hp
  simp only [evC, List.mem_cons, List.not_mem_nil, or_false] at hp
  rcases hp with rfl | rfl | rfl | rfl | rfl <;> rfl
theorem close_no {st : St} {a b : Int} : closeRes st (.tup [.i .i64 a, .nsl, .i .i64 b]) = some (.tup [.i .i64 a, .nsl, .i .i64 b]) := closeRes_tup rfl
set_option maxHeartbeats 16000000 in
set_option maxRecDepth 100000 in
theorem unpack_ev {P : Program} {Gl : Gmap} {cfg : Cfg} (hok : CfgOK P Gl cfg) (hf : cfg.fn 20 = some m20) (hfc : cfg.fn 41 = some m41) (hxc : cfg.ext 41 = none) (hfk : cfg.fn 46 = some m46) (hxk : cfg.ext 46 = none)
    (hfp : ∀ k, k < 5 → cfg.fn (putId k) = lookT (putId k) tblL) (hxp : ∀ k, k < 5 → cfg.ext (putId k) = none) (hx1 : cfg.ext 75 = some gGetI) (hx2 : cfg.ext 45 = some gGetU) (hx3 : cfg.ext 43 = some gUnseal) (hx4 : cfg.ext 44 = some gPre)
    {v : PV} {b : List UInt8} (hv : inL v = some b) (hb : b.length ≤ 140737488355000) {fuel : Nat} (hfu : 1048600 ≤ fuel) :
    ∃ r st', evFn cfg (fuel + 1 + 1 + 1) 20 [v] { sto := .leaf, cnt := 1 } = some (r, st') ∧ closeRes st' r = some (unpackV b) := by
  refine evFn_W hf ?_
  unfold m20
  have ht0 : Top { sto := .leaf, cnt := 1 } := fun k _ => Z0K_ _ _
  have hdv : ∀ st, deepL st [v] = some [v] := fun st => deepL_flat (by simp only [List.all_cons, in_flat hv, List.all_nil, Bool.and_self])
  have gU : runPure cfg (evFn cfg (fuel + 1 + 1)) 43 [v] = some (unsealV b) := by
    rw [runPure_ext hx3]
    unfold gUnseal
    simp only [hv]
    rw [if_pos (by omega)]
  unfold unpackV unpackR
  unfold unsealV at gU
  by_cases h1 : b.length < 4
  · rw [if_pos h1] at gU ⊢
    have c2 : ∀ (st : St) (key : Nat), callStep (runPure cfg (evFn cfg (fuel + 1 + 1)) 43) false st key [v] = some (.tup [.nsl, .i .i64 11], st) := fun st key => callStep_gen (hdv st) gU rfl
    simp (disch := first | omega | rfl | assumption) only [putArgs, ↓Z0, ↓Xp, ↓Xt, Xq, Xc, binP, ofCells, Nat.reduceAdd, Nat.reduceMul, Nat.reduceLT, Nat.reduceEqDiff, reduceIte, Xm, Nat.reduceLeDiff, Xa, Xn, c2]
    refine ⟨nofun, _, rfl, ?_⟩
    simp only [tupV, ↓Z0, ↓Xp, ↓Xt, Xq, Xc, binP, ofCells, Nat.reduceAdd, Nat.reduceMul, Nat.reduceLT, Nat.reduceEqDiff, reduceIte]
    exact close_no
  rw [if_neg h1] at gU ⊢
  obtain ⟨m, hm⟩ : ∃ m, b.take (b.length - 4) = m := ⟨_, rfl⟩
  rw [hm] at gU ⊢
  have hml : m.length + 4 = b.length := by rw [← hm, List.length_take]; omega
  by_cases h2 : sealB m = b
  case neg =>
    rw [if_neg h2] at gU ⊢
    have c2 : ∀ (st : St) (key : Nat), callStep (runPure cfg (evFn cfg (fuel + 1 + 1)) 43) false st key [v] = some (.tup [.nsl, .i .i64 12], st) := fun st key => callStep_gen (hdv st) gU rfl
    simp (disch := first | omega | rfl | assumption) only [putArgs, ↓Z0, ↓Xp, ↓Xt, Xq, Xc, binP, ofCells, Nat.reduceAdd, Nat.reduceMul, Nat.reduceLT, Nat.reduceEqDiff, reduceIte, Xm, Nat.reduceLeDiff, Xa, Xn, c2]
    refine ⟨nofun, _, rfl, ?_⟩
    simp only [tupV, ↓Z0, ↓Xp, ↓Xt, Xq, Xc, binP, ofCells, Nat.reduceAdd, Nat.reduceMul, Nat.reduceLT, Nat.reduceEqDiff, reduceIte]
    exact close_no
  rw [if_pos h2] at gU ⊢
  have cp : ∀ (st : St) key, callStep (runPure cfg (evFn cfg (fuel + 1 + 1)) 44) false st key [.s m, .s amd1] = some (.b (m.take 4 == amd1), st) := by
    intro st key
    refine callStep_flat rfl ?_ rfl
    rw [runPure_ext hx4]; rfl
  have hamd : ([65, 77, 68, 49] : List UInt8) = amd1 := rfl
  have hbm := bytesOf_of m
  by_cases h0 : m = []
  · subst h0
    have gU0 : runPure cfg (evFn cfg (fuel + 1 + 1)) 43 [v] = some (.tup [.fsl 0 [], .i .i64 0]) := gU
    have c2 : ∀ (st : St) (key : Nat), callStep (runPure cfg (evFn cfg (fuel + 1 + 1)) 43) false st key [v] = some (.tup [.fsl 0 [], .i .i64 0], st) := fun st key => callStep_gen (hdv st) gU0 rfl
    have hcc : ∀ st, cellsOf st 1 (.fsl 0 []) = some (0, ofBytes []) := fun _ => rfl
    have hpf : (([] : List UInt8).take 4 == amd1) = false := rfl
    rw [hpf] at cp
    simp (disch := first | omega | rfl | assumption) only [putArgs, ↓Z0, ↓Xp, ↓Xt, Xq, Xc, binP, ofCells, Nat.reduceAdd, Nat.reduceMul, Nat.reduceLT, Nat.reduceEqDiff, reduceIte, Xm, Nat.reduceLeDiff, Xa, Xn, c2, hcc, hbm, hamd, cp, unP]
    refine ⟨nofun, _, rfl, ?_⟩
    simp only [tupV, ↓Z0, ↓Xp, ↓Xt, Xq, Xc, binP, ofCells, Nat.reduceAdd, Nat.reduceMul, Nat.reduceLT, Nat.reduceEqDiff, reduceIte]
    exact close_no
  have gU1 : runPure cfg (evFn cfg (fuel + 1 + 1)) 43 [v] = some (.tup ([] ++ PV.osl 1 m.length (ofBytes m) :: [.i .i64 0])) := by
    rw [gU]; unfold outV; rw [if_neg h0]; rfl
  refine WC_cutT hok ht0 (fun x => x.env.get 0 = v) ?_ ?_
  · simp (disch := first | omega | rfl | assumption) only [putArgs, ↓Z0, ↓Xp, ↓Xt, Xq, Xc, binP, ofCells, Nat.reduceAdd, Nat.reduceMul, Nat.reduceLT, Nat.reduceEqDiff, reduceIte]
  rintro ⟨env, ⟨sto, c⟩⟩ g0 ht1
  simp only at g0 ht1
  refine WC_cutT hok ht1 (fun x => ∃ kw, x.env.get 5 = .rsl kw 1 0 m.length ∧ x.env.get 6 = .i .i64 0 ∧ x.st.get kw = some (.cells (ofBytes m) false) ∧ kw < x.st.cnt) ?_ ?_
  · simp (disch := first | omega | rfl | assumption) only [↓Z0, ↓Xp, ↓Xt, Xq, Xc, binP, ofCells, Nat.reduceAdd, Nat.reduceMul, Nat.reduceLT, Nat.reduceEqDiff, reduceIte, g0]
    refine WV_callT (hdv _) gU1 (OutV.osl _ _ _) rfl rfl (clO_bytes m) (by rw [len_ofBytes, Nat.mul_one]) (by first | omega | (simp only [Z0L_, Z0M_, Nat.add_assoc, Nat.reduceAdd]; omega) | (simp only; omega)) ?_
    intro v' st1 o1 k1 c1 f1
    obtain ⟨kw, rfl, hkw, _, hkc⟩ := o1.obj (fun h => h0 (List.length_eq_zero_iff.1 h))
    simp (disch := first | omega | rfl | assumption) only [↓Z0, ↓Xp, ↓Xt, Xq, Xc, binP, ofCells, Nat.reduceAdd, Nat.reduceMul, Nat.reduceLT, Nat.reduceEqDiff, reduceIte, List.nil_append, List.getElem?_cons_zero, List.getElem?_cons_succ]
    exact ⟨kw, rfl, hkw, hkc⟩
  clear g0 ht1
  rintro ⟨env, ⟨sto, c⟩⟩ ⟨kw, g5, g6, kk, hkc⟩ ht1
  simp only at g5 g6 kk hkc ht1
  refine WC_cutT hok ht1 (fun x => x.env.get 5 = .rsl kw 1 0 m.length ∧ x.st.get kw = some (.cells (ofBytes m) false) ∧ kw < x.st.cnt) ?_ ?_
  · simp (disch := first | omega | rfl | assumption) only [↓Z0, ↓Xp, ↓Xt, Xq, Xc, binP, ofCells, Nat.reduceAdd, Nat.reduceMul, Nat.reduceLT, Nat.reduceEqDiff, reduceIte, Xa, Xn, g5, g6]
    (repeat' (first | exact True.intro | rfl | assumption | omega | apply And.intro))
  clear g5 g6 ht1 kk hkc
  rintro ⟨env, ⟨sto, c⟩⟩ ⟨g5, kk, hkc⟩ ht1
  simp only at g5 kk hkc ht1
  unfold denseR
  have hcw : ∀ n, cellsOf ⟨sto, n⟩ 1 (.rsl kw 1 0 m.length) = some (m.length, ofBytes m) := fun n => cells_at (fz := false) kk
  by_cases h3 : (m.take 4 == amd1) = false
  · rw [if_pos h3]
    rw [h3] at cp
    simp (disch := first | omega | rfl | assumption) only [↓Z0, ↓Xp, ↓Xt, Xq, Xc, binP, ofCells, Nat.reduceAdd, Nat.reduceMul, Nat.reduceLT, Nat.reduceEqDiff, reduceIte, Xa, Xn, g5, hcw, hbm, hamd, cp, unP]
    refine ⟨nofun, _, rfl, ?_⟩
    simp only [tupV, ↓Z0, ↓Xp, ↓Xt, Xq, Xc, binP, ofCells, Nat.reduceAdd, Nat.reduceMul, Nat.reduceLT, Nat.reduceEqDiff, reduceIte]
    exact close_no
  have h3' : (m.take 4 == amd1) = true := by simpa using h3
  rw [if_neg h3]
  rw [h3'] at cp
  refine WC_cutT hok ht1 (fun x => x.env.get 5 = .rsl kw 1 0 m.length ∧ x.st.get kw = some (.cells (ofBytes m) false) ∧ kw < x.st.cnt) ?_ ?_
  · simp (disch := first | omega | rfl | assumption) only [↓Z0, ↓Xp, ↓Xt, Xq, Xc, binP, ofCells, Nat.reduceAdd, Nat.reduceMul, Nat.reduceLT, Nat.reduceEqDiff, reduceIte, Xa, Xn, g5, hcw, hbm, hamd, cp, unP]
    (repeat' (first | exact True.intro | rfl | assumption | omega | apply And.intro))
  clear g5 ht1 kk hkc hcw
  rintro ⟨env, ⟨sto, c⟩⟩ ⟨g5, kk, hkc⟩ ht1
  simp only at g5 kk hkc ht1
  have cu : ∀ (st : St) (hk : st.get kw = some (.cells (ofBytes m) false)) (key : Nat) (a : Int), callStep (runPure cfg (evFn cfg (fuel + 1 + 1)) 45) false st key [.rsl kw 1 0 m.length, .i .i64 a] = some (.tup [.i .u64 ((getU m a).1 : Int), .i .i64 (getU m a).2.1, .i .i64 (getU m a).2.2], st) := by
    intro st hk key a
    refine call_deepb (deep_2 (deep_b (fz := false) hk) (deep_i st .i64 a)) ?_ rfl rfl
    rw [runPure_ext hx2]
    unfold gGetU
    simp only [in_fsl]
    rw [if_pos (by omega)]
    rfl
  have cu4 := fun n key => cu ⟨sto, n⟩ kk key ((4 : Nat) : Int)
  have hU4 : getU m ((4 : Nat) : Int) = getU m 4 := rfl
  simp only [hU4] at cu4
  have hlt1 := getU_lt m 4
  generalize getU m 4 = p1 at cu4 hlt1 ⊢
  obtain ⟨n1, x1, e1⟩ := p1
  simp only at cu4 hlt1 ⊢
  refine WC_cutT hok ht1 (fun x => x.env.get 5 = .rsl kw 1 0 m.length ∧ x.env.get 7 = .i .u64 (n1 : Int) ∧ x.env.get 8 = .i .i64 x1 ∧ x.env.get 6 = .i .i64 e1 ∧ x.st.get kw = some (.cells (ofBytes m) false) ∧ kw < x.st.cnt) ?_ ?_
  · simp (disch := first | omega | rfl | assumption) only [↓Z0, ↓Xp, ↓Xt, Xq, Xc, binP, ofCells, Nat.reduceAdd, Nat.reduceMul, Nat.reduceLT, Nat.reduceEqDiff, reduceIte, Xm, Nat.reduceLeDiff, Xa, Xn, g5, cu4]
    (repeat' (first | exact True.intro | rfl | assumption | omega | apply And.intro))
  clear g5 ht1 kk hkc cu4
  rintro ⟨env, ⟨sto, c⟩⟩ ⟨g5, g7, g8, g6, kk, hkc⟩ ht1
  simp only at g5 g7 g8 g6 kk hkc ht1
  by_cases h4 : e1 ≠ 0 ∨ 4611686018427387904 < n1
  · rw [if_pos h4]
    by_cases h4a : e1 = 0
    · have h4b : 4611686018427387904 < n1 := by omega
      simp (disch := first | omega | rfl | assumption) only [↓Z0, ↓Xp, ↓Xt, Xq, Xc, binP, ofCells, Nat.reduceAdd, Nat.reduceMul, Nat.reduceLT, Nat.reduceEqDiff, reduceIte, Xa, Xn, g5, g6, g7, g8]
      refine ⟨nofun, _, rfl, ?_⟩
      simp only [tupV, ↓Z0, ↓Xp, ↓Xt, Xq, Xc, binP, ofCells, Nat.reduceAdd, Nat.reduceMul, Nat.reduceLT, Nat.reduceEqDiff, reduceIte]
      exact close_no
    · simp (disch := first | omega | rfl | assumption) only [↓Z0, ↓Xp, ↓Xt, Xq, Xc, binP, ofCells, Nat.reduceAdd, Nat.reduceMul, Nat.reduceLT, Nat.reduceEqDiff, reduceIte, Xa, Xn, g5, g6, g7, g8]
      refine ⟨nofun, _, rfl, ?_⟩
      simp only [tupV, ↓Z0, ↓Xp, ↓Xt, Xq, Xc, binP, ofCells, Nat.reduceAdd, Nat.reduceMul, Nat.reduceLT, Nat.reduceEqDiff, reduceIte]
      exact close_no
  rw [if_neg h4]
  refine WC_cutT hok ht1 (fun x => x.env.get 5 = .rsl kw 1 0 m.length ∧ x.env.get 7 = .i .u64 (n1 : Int) ∧ x.env.get 8 = .i .i64 x1 ∧ x.st.get kw = some (.cells (ofBytes m) false) ∧ kw < x.st.cnt) ?_ ?_
  · simp (disch := first | omega | rfl | assumption) only [↓Z0, ↓Xp, ↓Xt, Xq, Xc, binP, ofCells, Nat.reduceAdd, Nat.reduceMul, Nat.reduceLT, Nat.reduceEqDiff, reduceIte, Xa, Xn, g5, g6, g7, g8]
    (repeat' (first | exact True.intro | rfl | assumption | omega | apply And.intro))
  clear g5 g6 g7 g8 ht1 kk hkc
  rintro ⟨env, ⟨sto, c⟩⟩ ⟨g5, g7, g8, kk, hkc⟩ ht1
  simp only at g5 g7 g8 kk hkc ht1
  have cu4 := fun n key => cu ⟨sto, n⟩ kk key x1
  have hlt2 := getU_lt m x1
  generalize getU m x1 = p2 at cu4 hlt2 ⊢
  obtain ⟨n2, x2, e2⟩ := p2
  simp only at cu4 hlt2 ⊢
  refine WC_cutT hok ht1 (fun x => x.env.get 5 = .rsl kw 1 0 m.length ∧ x.env.get 7 = .i .u64 (n1 : Int) ∧ x.env.get 9 = .i .u64 (n2 : Int) ∧ x.env.get 10 = .i .i64 x2 ∧ x.env.get 6 = .i .i64 e2 ∧ x.st.get kw = some (.cells (ofBytes m) false) ∧ kw < x.st.cnt) ?_ ?_
  · simp (disch := first | omega | rfl | assumption) only [↓Z0, ↓Xp, ↓Xt, Xq, Xc, binP, ofCells, Nat.reduceAdd, Nat.reduceMul, Nat.reduceLT, Nat.reduceEqDiff, reduceIte, Xm, Nat.reduceLeDiff, Xa, Xn, g5, g7, g8, cu4]
    (repeat' (first | exact True.intro | rfl | assumption | omega | apply And.intro))
  clear g5 g7 g8 ht1 kk hkc cu4
  rintro ⟨env, ⟨sto, c⟩⟩ ⟨g5, g7, g9, g10, g6, kk, hkc⟩ ht1
  simp only at g5 g7 g9 g10 g6 kk hkc ht1
  by_cases h5 : e2 ≠ 0 ∨ n2 < 1 ∨ 1048576 < n2
  · rw [if_pos h5]
    by_cases h5a : e2 = 0
    · by_cases h5b : n2 < 1
      · simp (disch := first | omega | rfl | assumption) only [↓Z0, ↓Xp, ↓Xt, Xq, Xc, binP, ofCells, Nat.reduceAdd, Nat.reduceMul, Nat.reduceLT, Nat.reduceEqDiff, reduceIte, Xa, Xn, g5, g6, g7, g9, g10]
        refine ⟨nofun, _, rfl, ?_⟩
        simp only [tupV, ↓Z0, ↓Xp, ↓Xt, Xq, Xc, binP, ofCells, Nat.reduceAdd, Nat.reduceMul, Nat.reduceLT, Nat.reduceEqDiff, reduceIte]
        exact close_no
      · have h5c : 1048576 < n2 := by omega
        simp (disch := first | omega | rfl | assumption) only [↓Z0, ↓Xp, ↓Xt, Xq, Xc, binP, ofCells, Nat.reduceAdd, Nat.reduceMul, Nat.reduceLT, Nat.reduceEqDiff, reduceIte, Xa, Xn, g5, g6, g7, g9, g10]
        refine ⟨nofun, _, rfl, ?_⟩
        simp only [tupV, ↓Z0, ↓Xp, ↓Xt, Xq, Xc, binP, ofCells, Nat.reduceAdd, Nat.reduceMul, Nat.reduceLT, Nat.reduceEqDiff, reduceIte]
        exact close_no
    · simp (disch := first | omega | rfl | assumption) only [↓Z0, ↓Xp, ↓Xt, Xq, Xc, binP, ofCells, Nat.reduceAdd, Nat.reduceMul, Nat.reduceLT, Nat.reduceEqDiff, reduceIte, Xa, Xn, g5, g6, g7, g9, g10]
      refine ⟨nofun, _, rfl, ?_⟩
      simp only [tupV, ↓Z0, ↓Xp, ↓Xt, Xq, Xc, binP, ofCells, Nat.reduceAdd, Nat.reduceMul, Nat.reduceLT, Nat.reduceEqDiff, reduceIte]
      exact close_no
  rw [if_neg h5]
  refine WC_cutT hok ht1 (fun x => x.env.get 5 = .rsl kw 1 0 m.length ∧ x.env.get 7 = .i .u64 (n1 : Int) ∧ x.env.get 9 = .i .u64 (n2 : Int) ∧ x.env.get 10 = .i .i64 x2 ∧ x.st.get kw = some (.cells (ofBytes m) false) ∧ kw < x.st.cnt) ?_ ?_
  · simp (disch := first | omega | rfl | assumption) only [↓Z0, ↓Xp, ↓Xt, Xq, Xc, binP, ofCells, Nat.reduceAdd, Nat.reduceMul, Nat.reduceLT, Nat.reduceEqDiff, reduceIte, Xa, Xn, g5, g6, g7, g9, g10]
    (repeat' (first | exact True.intro | rfl | assumption | omega | apply And.intro))
  clear g5 g6 g7 g9 g10 ht1 kk hkc
  rintro ⟨env, ⟨sto, c⟩⟩ ⟨g5, g7, g9, g10, kk, hkc⟩ ht1
  simp only at g5 g7 g9 g10 kk hkc ht1
  have hmb : maxBytes = 140737488355328 := rfl
  refine WC_cutT hok ht1 (fun x => ∃ q, q ≠ kw ∧ x.env.get 5 = .rsl kw 1 0 m.length ∧ x.env.get 7 = .i .u64 (n1 : Int) ∧ x.env.get 10 = .i .i64 x2 ∧ x.env.get 11 = .rsl q 5 0 n2 ∧ x.st.get q = some (.cells (evsC (List.replicate n2 .zero)) false) ∧ q < x.st.cnt ∧ x.st.get kw = some (.cells (ofBytes m) false) ∧ kw < x.st.cnt) ?_ ?_
  · simp (disch := first | omega | rfl | assumption) only [↓Z0, ↓Xp, ↓Xt, Xq, Xc, binP, ofCells, Nat.reduceAdd, Nat.reduceMul, Nat.reduceLT, Nat.reduceEqDiff, reduceIte, Xm, Nat.reduceLeDiff, g5, g7, g9, g10, evs_zeros]
    refine ⟨⟨by omega, by omega⟩, c + 8, by omega, rfl, by rw [Z0H_], by omega, kk, by omega⟩
  clear g5 g7 g9 g10 ht1 kk hkc
  rintro ⟨env, ⟨sto, c⟩⟩ ⟨q, hqk, g5, g7, g10, g11, kq, hqc, kk, hkc⟩ ht1
  simp only at g5 g7 g10 g11 kq hqc kk hkc ht1
  refine WC_cutT hok ht1 (fun x => ∃ kp, x.env.get 5 = .rsl kw 1 0 m.length ∧ x.env.get 7 = .i .u64 (n1 : Int) ∧ x.env.get 10 = .i .i64 x2 ∧ x.env.get 11 = .rsl q 5 0 n2 ∧ x.st.get q = some (.cells (evsC (List.replicate n2 .zero)) false) ∧ q < x.st.cnt ∧ x.st.get kw = some (.cells (ofBytes m) false) ∧ kw < x.st.cnt ∧ x.env.get 13 = .ptr kp 0 ∧ x.st.get kp = some (.cells putF false)) ?_ ?_
  · simp (disch := first | omega | rfl | assumption) only [↓Z0, ↓Xp, ↓Xt, Xq, Xc, binP, ofCells, Nat.reduceAdd, Nat.reduceMul, Nat.reduceLT, Nat.reduceEqDiff, reduceIte, hxc]
    refine Z0o_ (columns_ev hok hfc (st := ⟨sto, c + 64⟩) (ht1.le (by omega))) ?_
    rintro _ st1 ⟨rfl, c1, f1⟩
    simp only at c1 f1
    have hp5 : pickF.length = 5 := rfl
    have hq5 : putF.length = 5 := rfl
    have hp1 : pickF.all PV.one = true := rfl
    have hq1 : putF.all PV.one = true := rfl
    simp (disch := first | omega | rfl | assumption) only [↓Z0, ↓Xp, ↓Xt, Xq, Xc, binP, ofCells, Nat.reduceAdd, Nat.reduceMul, Nat.reduceLT, Nat.reduceEqDiff, reduceIte, Xm, Nat.reduceLeDiff, hp5, hq5, hp1, hq1]
    refine ⟨c + 40, g5, g7, g10, g11, ?_, by omega, ?_, by omega, rfl, by simp (disch := first | omega | rfl | assumption) only [Z0H_, Z0I_]⟩
    · try simp (disch := first | omega | rfl | assumption) only [Z0I_]
      rw [f1 q (by omega)]; exact kq
    · try simp (disch := first | omega | rfl | assumption) only [Z0I_]
      rw [f1 kw (by omega)]; exact kk
  clear g5 g7 g10 g11 ht1 kk hkc kq hqc
  rintro ⟨env, ⟨sto, c⟩⟩ ⟨kp, g5, g7, g10, g11, kq, hqc, kk, hkc, g13, k13⟩ ht1
  simp only at g5 g7 g10 g11 kq hqc kk hkc g13 k13 ht1
  obtain ⟨RES, hRES⟩ : ∃ R, colsD m (ksF 0) x2 (List.replicate n2 .zero) = R := ⟨_, rfl⟩
  rw [hRES]
  have hd : ∀ (st st2 : St), q ≠ kw → st.get kw = some (.cells (ofBytes m) false) → kw < st.cnt → (∀ j, j < st.cnt → j ≠ q → st2.get j = st.get j) → ∃ v', deep st2 12 (.rsl kw 1 0 m.length) = some v' ∧ inL v' = some m := by
    intro st st2 h1 h2 h3 h4
    exact ⟨_, deep_b (fz := false) (by rw [h4 kw h3 (fun e => h1 e.symm)]; exact h2), in_fsl m⟩
  refine WC_cutR (fun x => ∃ (L : List Ev) (a : Int), RES = some (L, a) ∧ L.length = n2 ∧ x.env.get 5 = .rsl kw 1 0 m.length ∧ x.env.get 7 = .i .u64 (n1 : Int) ∧ x.env.get 10 = .i .i64 a ∧ x.env.get 11 = .rsl q 5 0 n2 ∧ x.st.get q = some (.cells (evsC L) false) ∧ q < x.st.cnt) ?_ ?_
  · have hq5 : putF.length = 5 := rfl
    have hqt : putF.take 5 = putF := rfl
    have k13' : ∀ n, St.get ⟨sto, n⟩ kp = some (.cells putF false) := fun _ => k13
    rw [Z0]
    simp (disch := first | omega | rfl | assumption) only [↓Xp, ↓Xt, Xq, Xc, binP, ofCells, Nat.reduceAdd, Nat.reduceMul, Nat.reduceLT, Nat.reduceEqDiff, reduceIte, Xm, Nat.reduceLeDiff, g5, g7, g10, g11, g13, k13', hq5, hqt]
    refine Z9 (k := 5 - 0) (fun d x => ∃ (k : Nat) (a : Int) (L : List Ev), k ≤ 5 ∧ d = 5 - k ∧ L.length = n2 ∧ colsD m (ksF k) a L = RES ∧ x.env.get 5 = .rsl kw 1 0 m.length ∧ x.env.get 7 = .i .u64 (n1 : Int) ∧ x.env.get 10 = .i .i64 a ∧ x.env.get 11 = .rsl q 5 0 n2 ∧ x.st.get q = some (.cells (evsC L) false) ∧ q < x.st.cnt ∧ x.st.get kw = some (.cells (ofBytes m) false) ∧ kw < x.st.cnt ∧ x.env.get 64 = .agg putF ∧ x.env.get 65 = .i .i64 (k : Int)) ?_ ?_ (by omega)
    · clear g5 g7 g10 g11 kk hkc kq hqc g13 k13 k13' ht1
      rintro d ⟨env, ⟨sto, c⟩⟩ ⟨k, a, L, hk, rfl, hLn, hR, g5, g7, g10, g11, kq, hqc, kk, hkc, g64, g65⟩
      simp only at g5 g7 g10 g11 kq hqc kk hkc g64 g65
      by_cases hk5 : k < 5
      · have hpa := put_at hk5
        simp only [Nat.mul_one] at hpa
        have ofc : ofCells false [PV.fn (putId k) []] = some (.fn (putId k) []) := rfl
        rw [ksF_step hk5] at hR
        unfold colsD at hR
        have hcol := fun (N : Nat) (hN : c ≤ N) => column_ev (cfg := cfg) (fuel := fuel) hfk hfp hxp hx1 hx2 (v := .rsl kw 1 0 m.length) (b := m) (st := ⟨sto, N⟩) (q := q) (fun st2 h => hd ⟨sto, N⟩ st2 hqk kk (by simp only; omega) h) (by omega) (at0 := a) (L := L) hk5 kq (by simp only; omega) hfu (by omega)
        rw [hLn] at hcol
        rw [hLn] at hR
        cases hC : colV m k n2 n2 0 0 true a with
        | none =>
          rw [hC] at hR hcol
          have hR0 : RES = none := hR.symm
          subst hR0
          simp (disch := first | omega | rfl | assumption) only [↓Z0, ↓Xp, ↓Xt, Xq, Xc, binP, ofCells, Nat.reduceAdd, Nat.reduceMul, Nat.reduceLT, Nat.reduceEqDiff, reduceIte, Xa, Xn, g5, g7, g10, g11, g64, g65, hpa, ofc, hxk]
          refine Z0o_ (hcol _ (by omega)) ?_
          rintro _ st1 ⟨c1, f1, rfl⟩
          simp (disch := first | omega | rfl | assumption) only [↓Z0, ↓Xp, ↓Xt, Xq, Xc, binP, ofCells, Nat.reduceAdd, Nat.reduceMul, Nat.reduceLT, Nat.reduceEqDiff, reduceIte, Xm, Nat.reduceLeDiff, unP]
          refine ⟨nofun, _, rfl, ?_⟩
          simp only [tupV, ↓Z0, ↓Xp, ↓Xt, Xq, Xc, binP, ofCells, Nat.reduceAdd, Nat.reduceMul, Nat.reduceLT, Nat.reduceEqDiff, reduceIte]
          exact close_no
        | some p =>
          obtain ⟨vs, a'⟩ := p
          rw [hC] at hR hcol
          simp only at hR hcol
          simp (disch := first | omega | rfl | assumption) only [↓Z0, ↓Xp, ↓Xt, Xq, Xc, binP, ofCells, Nat.reduceAdd, Nat.reduceMul, Nat.reduceLT, Nat.reduceEqDiff, reduceIte, Xa, Xn, g5, g7, g10, g11, g64, g65, hpa, ofc, hxk]
          refine Z0o_ (hcol _ (by omega)) ?_
          rintro _ st1 ⟨c1, f1, rfl, hvl, q1⟩
          try simp only at c1
          try simp only at f1
          have kk1 : st1.get kw = some (.cells (ofBytes m) false) := by rw [f1 kw (by omega) (fun e => hqk e.symm)]; exact kk
          try simp (disch := first | omega | rfl | assumption) only [↓Z0, ↓Xp, ↓Xt, Xq, Xc, binP, ofCells, Nat.reduceAdd, Nat.reduceMul, Nat.reduceLT, Nat.reduceEqDiff, reduceIte, Xm, Nat.reduceLeDiff, unP]
          refine ⟨5 - (k + 1), by omega, k + 1, a', setC k L vs, by omega, rfl, by rw [setC_len (by omega)]; exact hLn, hR, rfl, q1, by omega, kk1, by omega, rfl⟩
      · have hk' : k = 5 := by omega
        subst hk'
        have hR2 : RES = some (L, a) := by rw [← hR]; rfl
        simp (disch := first | omega | rfl | assumption) only [↓Z0, ↓Xp, ↓Xt, Xq, Xc, binP, ofCells, Nat.reduceAdd, Nat.reduceMul, Nat.reduceLT, Nat.reduceEqDiff, reduceIte, Xa, Xn, g5, g7, g10, g11, g64, g65]
        refine ⟨L, a, ?_⟩
        (repeat' (first | exact True.intro | rfl | assumption | omega | apply And.intro))
    · refine ⟨0, x2, List.replicate n2 .zero, by omega, rfl, by rw [List.length_replicate], hRES, ?_⟩
      simp (disch := first | omega | rfl | assumption) only [↓Z0, ↓Xp, ↓Xt, Xq, Xc, binP, ofCells, Nat.reduceAdd, Nat.reduceMul, Nat.reduceLT, Nat.reduceEqDiff, reduceIte, Xa, Xn, g5, g7, g10, g11]
      (repeat' (first | exact True.intro | rfl | assumption | omega | apply And.intro))
  clear g5 g7 g10 g11 ht1 kk hkc kq hqc g13 k13
  rintro ⟨env, ⟨sto, c⟩⟩ ⟨L, a, rfl, hLn, g5, g7, g10, g11, kq, hqc⟩
  simp only at g5 g7 g10 g11 kq hqc
  simp only
  have hlr : ∀ (a b c n : Nat), lenP (.rsl a b c n) = some (.i .i64 n) := fun _ _ _ _ => rfl
  by_cases h8 : a < (m.length : Int)
  · rw [if_pos h8]
    simp (disch := first | omega | rfl | assumption) only [↓Z0, ↓Xp, ↓Xt, Xq, Xc, binP, ofCells, Nat.reduceAdd, Nat.reduceMul, Nat.reduceLT, Nat.reduceEqDiff, reduceIte, Xa, Xn, g5, g7, g10, g11, hlr]
    refine ⟨nofun, _, rfl, ?_⟩
    simp only [tupV, ↓Z0, ↓Xp, ↓Xt, Xq, Xc, binP, ofCells, Nat.reduceAdd, Nat.reduceMul, Nat.reduceLT, Nat.reduceEqDiff, reduceIte]
    exact close_no
  · rw [if_neg h8]
    have wn : IntKind.i64.wrap (n1 : Int) = (n1 : Int) := wr_i64 _ ⟨by omega, by omega⟩
    simp (disch := first | omega | rfl | assumption) only [↓Z0, ↓Xp, ↓Xt, Xq, Xc, binP, ofCells, Nat.reduceAdd, Nat.reduceMul, Nat.reduceLT, Nat.reduceEqDiff, reduceIte, Xa, Xn, g5, g7, g10, g11, hlr]
    refine ⟨nofun, _, rfl, ?_⟩
    simp only [tupV, ↓Z0, ↓Xp, ↓Xt, Xq, Xc, binP, ofCells, Nat.reduceAdd, Nat.reduceMul, Nat.reduceLT, Nat.reduceEqDiff, reduceIte]
    have ho : Own ⟨sto, c + 80⟩ 5 (.rsl q 5 0 n2) n2 (evsC L) := .inr ⟨q, rfl, kq, by rw [evsC_len, hLn], by simp only; omega⟩
    have := close_tupO (pre := [.i .i64 (n1 : Int)]) (post := [.i .i64 0]) ho rfl rfl (clO_evs L) (by decide)
    rw [hLn]
    exact this
end Go.Pe
