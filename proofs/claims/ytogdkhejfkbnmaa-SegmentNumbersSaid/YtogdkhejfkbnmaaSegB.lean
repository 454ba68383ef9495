/-
  Segments: the denser coding made: the mathematics, and Pack by the interpreter of plain data. No condition.
-/
import Derived.Test.YtogdkhejfkbnmaaSegA
set_option linter.unusedVariables false
set_option linter.unusedSimpArgs false
namespace Go.Pe
open Go Go.Am Go.RowKit

def stepI (a v : Int) : Int := IntKind.i64.wrap (v - a)
def flushR (more : Int) (run : Nat) : List UInt8 := varint (foldN more) ++ varint run
def colR (prev more : Int) (run : Nat) : List Int → List UInt8
  | [] => flushR more run
  | v :: r => if stepI prev v = more then colR v more (run + 1) r else flushR more run ++ colR v (stepI prev v) 1 r
def colT (prev : Int) : List Int → List UInt8
  | [] => []
  | v :: r => colR v (stepI prev v) 1 r
def colsF (l : List Ev) : Nat → List UInt8
  | 0 => colT 0 (l.map (colG 0)) ++ (colT 0 (l.map (colG 1)) ++ (colT 0 (l.map (colG 2)) ++ (colT 0 (l.map (colG 3)) ++ colT 0 (l.map (colG 4)))))
  | 1 => colT 0 (l.map (colG 1)) ++ (colT 0 (l.map (colG 2)) ++ (colT 0 (l.map (colG 3)) ++ colT 0 (l.map (colG 4))))
  | 2 => colT 0 (l.map (colG 2)) ++ (colT 0 (l.map (colG 3)) ++ colT 0 (l.map (colG 4)))
  | 3 => colT 0 (l.map (colG 3)) ++ colT 0 (l.map (colG 4))
  | 4 => colT 0 (l.map (colG 4))
  | _ => []
theorem colsF_step (l : List Ev) {k : Nat} (hk : k < 5) : colsF l k = colT 0 (l.map (colG k)) ++ colsF l (k + 1) := by
  match k, hk with
  | 0, _ => rfl
  | 1, _ => rfl
  | 2, _ => rfl
  | 3, _ => rfl
  | 4, _ => simp [colsF]
theorem colR_on {prev more v : Int} {run : Nat} {r : List Int} (h : stepI prev v = more) : colR prev more run (v :: r) = colR v more (run + 1) r := by
  show (if _ then _ else _) = _
  rw [if_pos h]
theorem colR_off {prev more v : Int} {run : Nat} {r : List Int} (h : stepI prev v ≠ more) : colR prev more run (v :: r) = flushR more run ++ colT prev (v :: r) := by
  show (if _ then _ else _) = _
  rw [if_neg h]; rfl
theorem colR_end (prev more : Int) (run : Nat) : colR prev more run [] = flushR more run ++ colT prev [] := by simp [colR, colT]
theorem colT_on {prev v : Int} {r : List Int} : colT prev (v :: r) = colR prev (stepI prev v) 0 (v :: r) := by rw [colR_on rfl]; rfl
theorem flushR_len (more : Int) (run : Nat) : (flushR more run).length ≤ 20 := by
  unfold flushR
  have h1 := varint_le (foldN more)
  have h2 := varint_le run
  rw [List.length_append]; omega
theorem colR_len : ∀ (r : List Int) (prev more : Int) (run : Nat), (colR prev more run r).length ≤ 20 * (r.length + 1)
  | [], _, more, run => by have := flushR_len more run; simpa [colR] using this
  | v :: r, prev, more, run => by
    have h1 := colR_len r v more (run + 1)
    have h2 := colR_len r v (stepI prev v) 1
    have h3 := flushR_len more run
    simp only [colR, List.length_cons]
    split
    · omega
    · rw [List.length_append]; omega
theorem colT_len (r : List Int) (prev : Int) : (colT prev r).length ≤ 20 * r.length := by
  cases r with
  | nil => simp [colT]
  | cons v r => have := colR_len r v (stepI prev v) 1; simp only [colT, List.length_cons]; omega
theorem colsF_len (l : List Ev) (k : Nat) : (colsF l k).length ≤ 100 * l.length := by
  have h := fun k => colT_len (l.map (colG k)) 0
  simp only [List.length_map] at h
  have h0 := h 0; have h1 := h 1; have h2 := h 2; have h3 := h 3; have h4 := h 4
  match k with
  | 0 => simp only [colsF, List.length_append]; omega
  | 1 => simp only [colsF, List.length_append]; omega
  | 2 => simp only [colsF, List.length_append]; omega
  | 3 => simp only [colsF, List.length_append]; omega
  | 4 => simp only [colsF]; omega
  | k + 5 => simp [colsF]
def amd1 : List UInt8 := [65, 77, 68, 49]
def ams1 : List UInt8 := [65, 77, 83, 49]
def denseB (first : Nat) (l : List Ev) : List UInt8 := amd1 ++ varint first ++ varint l.length ++ colsF l 0
def packB (first : Nat) (l : List Ev) : List UInt8 := sealB (denseB first l)
def packV (first : Int) (l : List Ev) : PV := if first < 0 ∨ 4611686018427387904 < first ∨ l = [] then .tup [.nsl, .i .i64 2] else if 1048576 < l.length then .tup [.nsl, .i .i64 3] else .tup [.osl 1 (packB first.toNat l).length (ofBytes (packB first.toNat l)), .i .i64 0]
theorem pick_at {k : Nat} (hk : k < 5) : cut? pickF (k * 1) 1 = some [.fn (pickId k) []] := by
  match k, hk with
  | 0, _ => rfl
  | 1, _ => rfl
  | 2, _ => rfl
  | 3, _ => rfl
  | 4, _ => rfl
theorem put_at {k : Nat} (hk : k < 5) : cut? putF (k * 1) 1 = some [.fn (putId k) []] := by
  match k, hk with
  | 0, _ => rfl
  | 1, _ => rfl
  | 2, _ => rfl
  | 3, _ => rfl
  | 4, _ => rfl
theorem map_drop {l : List Ev} {i : Nat} (hi : i < l.length) (k : Nat) : (l.map (colG k)).drop i = colG k (l.getD i .zero) :: (l.map (colG k)).drop (i + 1) := by
  rw [List.drop_eq_getElem_cons (by rw [List.length_map]; exact hi)]
  simp [List.getD_eq_getElem?_getD, hi]
theorem uint_own {cfg : Cfg} {callE : CallE} (hx : cfg.ext 34 = some gUint) {L : List UInt8} (hl : L.length + 10 ≤ maxBytes) {n : Nat} (hn : n < 18446744073709551616) {st : St} {k key : Nat} (hk : st.get k = some (.cells (ofBytes L) false)) :
    callStep (runPure cfg callE 34) true st key [.rsl k 1 0 L.length, .i .u64 (n : Int)] = some (.rsl key 1 0 (L ++ varint n).length, (st.put k none).put key (some (.cells (ofBytes (L ++ varint n)) false))) := by
  refine call_own hk rfl ?_
  rw [runPure_ext hx]
  unfold gUint outL
  simp only [bytesOf_of, if_true, Int.toNat_natCast]
  rw [if_pos ⟨by omega, by omega, hl⟩]
theorem int_own {cfg : Cfg} {callE : CallE} (hx : cfg.ext 42 = some gInt) {L : List UInt8} (hl : L.length + 10 ≤ maxBytes) {n : Int} (hn : -9223372036854775808 ≤ n ∧ n ≤ 9223372036854775807) {st : St} {k key : Nat} (hk : st.get k = some (.cells (ofBytes L) false)) :
    callStep (runPure cfg callE 42) true st key [.rsl k 1 0 L.length, .i .i64 n] = some (.rsl key 1 0 (L ++ varint (foldN n)).length, (st.put k none).put key (some (.cells (ofBytes (L ++ varint (foldN n))) false))) := by
  refine call_own hk rfl ?_
  rw [runPure_ext hx]
  unfold gInt outL
  simp only [bytesOf_of, if_true]
  rw [if_pos ⟨hn.1, hn.2, hl⟩]
theorem WV_uintO {cfg : Cfg} {callE : CallE} (hx : cfg.ext 34 = some gUint) {L : List UInt8} {n : Nat} {st : St} {k key : Nat} {Q : PV → St → Prop} (hk : st.get k = some (.cells (ofBytes L) false)) (hl : L.length + 10 ≤ maxBytes) (hn : n < 18446744073709551616)
    (q : ∀ st', st'.get key = some (.cells (ofBytes (L ++ varint n)) false) → st'.cnt = st.cnt → (∀ j, j ≠ key → j ≠ k → st'.get j = st.get j) → Q (.rsl key 1 0 (L ++ varint n).length) st') : WV (callStep (runPure cfg callE 34) true st key [.rsl k 1 0 L.length, .i .u64 (n : Int)]) Q :=
  ⟨_, _, uint_own hx hl hn hk, q _ (St.get_putk _ _ _) rfl fun j h1 h2 => by rw [St.get_put_ne (fun e => h1 e.symm), St.get_put_ne (fun e => h2 e.symm)]⟩
theorem WV_intO {cfg : Cfg} {callE : CallE} (hx : cfg.ext 42 = some gInt) {L : List UInt8} {n : Int} {st : St} {k key : Nat} {Q : PV → St → Prop} (hk : st.get k = some (.cells (ofBytes L) false)) (hl : L.length + 10 ≤ maxBytes) (hn : -9223372036854775808 ≤ n ∧ n ≤ 9223372036854775807)
    (q : ∀ st', st'.get key = some (.cells (ofBytes (L ++ varint (foldN n))) false) → st'.cnt = st.cnt → (∀ j, j ≠ key → j ≠ k → st'.get j = st.get j) → Q (.rsl key 1 0 (L ++ varint (foldN n)).length) st') : WV (callStep (runPure cfg callE 42) true st key [.rsl k 1 0 L.length, .i .i64 n]) Q :=
  ⟨_, _, int_own hx hl hn hk, q _ (St.get_putk _ _ _) rfl fun j h1 h2 => by rw [St.get_put_ne (fun e => h1 e.symm), St.get_put_ne (fun e => h2 e.symm)]⟩
theorem step_in (a v : Int) : -9223372036854775808 ≤ stepI a v ∧ stepI a v ≤ 9223372036854775807 := by
  unfold stepI; rw [IntKind.wrap_i64]; omega
set_option maxHeartbeats 16000000 in
set_option maxRecDepth 100000 in
theorem pack_ev {P : Program} {Gl : Gmap} {cfg : Cfg} (hok : CfgOK P Gl cfg) (hf : cfg.fn 19 = some m19) (hfc : cfg.fn 41 = some m41) (hfp : ∀ k, k < 5 → cfg.fn (pickId k) = lookT (pickId k) tblL) (hxp : ∀ k, k < 5 → cfg.ext (pickId k) = none) (hxc : cfg.ext 41 = none)
    (hx1 : cfg.ext 34 = some gUint) (hx2 : cfg.ext 42 = some gInt) (hx3 : cfg.ext 31 = some gSeal) {v : PV} {l : List Ev} (hv : inEv v l) (hll : l.length ≤ 140737488355327) {first : Int} (hfi : -9223372036854775808 ≤ first ∧ first ≤ 9223372036854775807) {fuel : Nat} (hfu : 1048600 ≤ fuel) :
    ∃ r st', evFn cfg (fuel + 1 + 1) 19 [.i .i64 first, v] { sto := .leaf, cnt := 1 } = some (r, st') ∧ closeRes st' r = some (packV first l) := by
  refine evFn_W hf ?_
  unfold m19
  have hlv := inEv_len hv
  have hmb : maxBytes = 140737488355328 := rfl
  have ht0 : Top { sto := .leaf, cnt := 1 } := fun k _ => Z0K_ _ _
  by_cases h1 : first < 0 ∨ 4611686018427387904 < first ∨ l = []
  · have hp : packV first l = .tup [.nsl, .i .i64 2] := by unfold packV; rw [if_pos h1]
    rw [hp]
    by_cases ha : first < 0
    · simp (disch := first | omega | rfl | assumption) only [putArgs, ↓Z0, ↓Xp, ↓Xt, Xq, Xc, binP, ofCells, Nat.reduceAdd, Nat.reduceMul, Nat.reduceLT, Nat.reduceEqDiff, reduceIte, Xm, Nat.reduceLeDiff, Xa, Xn, hlv]
      refine ⟨nofun, _, rfl, ?_⟩
      simp only [tupV, ↓Z0, ↓Xp, ↓Xt, Xq, Xc, binP, ofCells, Nat.reduceAdd, Nat.reduceMul, Nat.reduceLT, Nat.reduceEqDiff, reduceIte]
      exact closeRes_tup rfl
    by_cases hb : 4611686018427387904 < first
    · simp (disch := first | omega | rfl | assumption) only [putArgs, ↓Z0, ↓Xp, ↓Xt, Xq, Xc, binP, ofCells, Nat.reduceAdd, Nat.reduceMul, Nat.reduceLT, Nat.reduceEqDiff, reduceIte, Xm, Nat.reduceLeDiff, Xa, Xn, hlv]
      refine ⟨nofun, _, rfl, ?_⟩
      simp only [tupV, ↓Z0, ↓Xp, ↓Xt, Xq, Xc, binP, ofCells, Nat.reduceAdd, Nat.reduceMul, Nat.reduceLT, Nat.reduceEqDiff, reduceIte]
      exact closeRes_tup rfl
    have hc : l = [] := by rcases h1 with h | h | h; exact absurd h ha; exact absurd h hb; exact h
    subst hc
    rw [List.length_nil] at hlv
    simp (disch := first | omega | rfl | assumption) only [putArgs, ↓Z0, ↓Xp, ↓Xt, Xq, Xc, binP, ofCells, Nat.reduceAdd, Nat.reduceMul, Nat.reduceLT, Nat.reduceEqDiff, reduceIte, Xm, Nat.reduceLeDiff, Xa, Xn, hlv]
    refine ⟨nofun, _, rfl, ?_⟩
    simp only [tupV, ↓Z0, ↓Xp, ↓Xt, Xq, Xc, binP, ofCells, Nat.reduceAdd, Nat.reduceMul, Nat.reduceLT, Nat.reduceEqDiff, reduceIte]
    exact closeRes_tup rfl
  have hne : l ≠ [] := fun e => h1 (.inr (.inr e))
  have hpos : 0 < l.length := List.length_pos_iff.2 hne
  have hvc := inEv_cons hv hne
  subst hvc
  by_cases h2 : 1048576 < l.length
  · have hp : packV first l = .tup [.nsl, .i .i64 3] := by unfold packV; rw [if_neg h1, if_pos h2]
    rw [hp]
    simp (disch := first | omega | rfl | assumption) only [putArgs, ↓Z0, ↓Xp, ↓Xt, Xq, Xc, binP, ofCells, Nat.reduceAdd, Nat.reduceMul, Nat.reduceLT, Nat.reduceEqDiff, reduceIte, Xm, Nat.reduceLeDiff, Xa, Xn, hlv]
    refine ⟨nofun, _, rfl, ?_⟩
    simp only [tupV, ↓Z0, ↓Xp, ↓Xt, Xq, Xc, binP, ofCells, Nat.reduceAdd, Nat.reduceMul, Nat.reduceLT, Nat.reduceEqDiff, reduceIte]
    exact closeRes_tup rfl
  have hp : packV first l = .tup [.osl 1 (packB first.toNat l).length (ofBytes (packB first.toNat l)), .i .i64 0] := by unfold packV; rw [if_neg h1, if_neg h2]
  rw [hp]
  clear hp
  obtain ⟨p, rfl⟩ : ∃ n : Nat, first = (n : Int) := ⟨first.toNat, by omega⟩
  rw [Int.toNat_natCast]
  refine WC_cutT hok ht0 (fun x => x.env.get 0 = .i .i64 (p : Int) ∧ x.env.get 1 = .fsl l.length (evsC l)) ?_ ?_
  · simp (disch := first | omega | rfl | assumption) only [putArgs, ↓Z0, ↓Xp, ↓Xt, Xq, Xc, binP, ofCells, Nat.reduceAdd, Nat.reduceMul, Nat.reduceLT, Nat.reduceEqDiff, reduceIte, Xm, Nat.reduceLeDiff, Xa, Xn, hlv]
  rintro ⟨env, ⟨sto, c⟩⟩ ⟨g0, g1⟩ ht1
  simp only at g0 g1 ht1
  refine WC_cutT hok ht1 (fun x => x.env.get 0 = .i .i64 (p : Int) ∧ x.env.get 1 = .fsl l.length (evsC l)) ?_ ?_
  · simp (disch := first | omega | rfl | assumption) only [↓Z0, ↓Xp, ↓Xt, Xq, Xc, binP, ofCells, Nat.reduceAdd, Nat.reduceMul, Nat.reduceLT, Nat.reduceEqDiff, reduceIte, Xm, Nat.reduceLeDiff, Xa, Xn, hlv, g0, g1]
  clear g0 g1 ht1
  rintro ⟨env, ⟨sto, c⟩⟩ ⟨g0, g1⟩ ht1
  simp only at g0 g1 ht1
  have hb4 : fillP [.i .u8 (Int.ofNat 0), .i .u8 (Int.ofNat 0), .i .u8 (Int.ofNat 0), .i .u8 (Int.ofNat 0)] [(0, 1, .i .u8 (Int.ofNat 65)), (1, 1, .i .u8 (Int.ofNat 77)), (2, 1, .i .u8 (Int.ofNat 68)), (3, 1, .i .u8 (Int.ofNat 49))] = some (ofBytes amd1) := rfl
  obtain ⟨B0, hB0⟩ : ∃ B, amd1 ++ varint p ++ varint l.length = B := ⟨_, rfl⟩
  have hB0l : B0.length ≤ 24 := by
    have h1 := varint_le p
    have h2 := varint_le l.length
    rw [← hB0]; simp only [List.length_append]; show 4 + _ + _ ≤ 24; omega
  have hpm : p ≤ 4611686018427387904 := by omega
  refine WC_cutT hok ht1 (fun x => ∃ q, x.env.get 1 = .fsl l.length (evsC l) ∧ x.env.get 6 = .rsl q 1 0 B0.length ∧ x.st.get q = some (.cells (ofBytes B0) false) ∧ q < x.st.cnt) ?_ ?_
  · have wp : IntKind.u64.wrap (p : Int) = (p : Int) := wr_u64 _ ⟨by omega, by omega⟩
    have wl : IntKind.u64.wrap (l.length : Int) = (l.length : Int) := wr_u64 _ ⟨by omega, by omega⟩
    have hb4l : (ofBytes amd1).length = 4 := rfl
    simp (disch := first | omega | rfl | assumption) only [↓Z0, ↓Xp, ↓Xt, Xq, Xc, binP, ofCells, Nat.reduceAdd, Nat.reduceMul, Nat.reduceLT, Nat.reduceEqDiff, reduceIte, g0, g1, hb4, Z0H_, wp, hb4l, Nat.mul_one]
    refine WV_uintO hx1 (L := amd1) (St.get_putk _ _ _) (by decide) (by omega) ?_
    intro st1 k1 c1 f1
    simp (disch := first | omega | rfl | assumption) only [↓Z0, ↓Xp, ↓Xt, Xq, Xc, binP, ofCells, Nat.reduceAdd, Nat.reduceMul, Nat.reduceLT, Nat.reduceEqDiff, reduceIte, hlv, wl]
    refine WV_uintO hx1 (L := amd1 ++ varint p) k1 (by have := varint_le p; rw [List.length_append]; show 4 + _ + 10 ≤ _; omega) (by omega) ?_
    intro st2 k2 c2 f2
    rw [hB0] at k2 ⊢
    exact ⟨_, rfl, k2, by simp only [Z0L_, Z0M_] at c1; omega⟩
  clear g0 g1 ht1
  rintro ⟨env, ⟨sto, c⟩⟩ ⟨q, g1, g6, kq, hq⟩ ht1
  simp only at g1 g6 kq hq ht1
  refine WC_cutT hok ht1 (fun x => ∃ q kp, x.env.get 1 = .fsl l.length (evsC l) ∧ x.env.get 6 = .rsl q 1 0 B0.length ∧ x.st.get q = some (.cells (ofBytes B0) false) ∧ q < x.st.cnt ∧ x.env.get 7 = .ptr kp 0 ∧ x.st.get kp = some (.cells pickF false)) ?_ ?_
  · simp (disch := first | omega | rfl | assumption) only [↓Z0, ↓Xp, ↓Xt, Xq, Xc, binP, ofCells, Nat.reduceAdd, Nat.reduceMul, Nat.reduceLT, Nat.reduceEqDiff, reduceIte, hxc]
    refine Z0o_ (columns_ev hok hfc (st := ⟨sto, c + 64⟩) (ht1.le (by omega))) ?_
    rintro _ st1 ⟨rfl, c1, f1⟩
    simp only at c1 f1
    have hp5 : pickF.length = 5 := rfl
    have hq5 : putF.length = 5 := rfl
    have hp1 : pickF.all PV.one = true := rfl
    have hq1 : putF.all PV.one = true := rfl
    simp (disch := first | omega | rfl | assumption) only [↓Z0, ↓Xp, ↓Xt, Xq, Xc, binP, ofCells, Nat.reduceAdd, Nat.reduceMul, Nat.reduceLT, Nat.reduceEqDiff, reduceIte, Xm, Nat.reduceLeDiff, hp5, hq5, hp1, hq1]
    refine ⟨q, c + 32, g1, g6, ?_, by omega, rfl, by simp (disch := first | omega | rfl | assumption) only [Z0H_, Z0I_]⟩
    simp (disch := first | omega | rfl | assumption) only [Z0I_]
    rw [f1 q (by omega)]; exact kq
  clear g1 g6 kq hq ht1
  rintro ⟨env, ⟨sto, c⟩⟩ ⟨q, kp, g1, g6, kq, hq, g7, k7⟩ ht1
  simp only at g1 g6 kq hq g7 k7 ht1
  obtain ⟨TOT, hTOT⟩ : ∃ T, B0 ++ colsF l 0 = T := ⟨_, rfl⟩
  have hTl : TOT.length ≤ 24 + 100 * l.length := by
    have := colsF_len l 0
    rw [← hTOT, List.length_append]; omega
  have hdense : denseB p l = TOT := by rw [← hTOT, ← hB0]; rfl
  refine Za (fun x => ∃ q, x.env.get 6 = .rsl q 1 0 TOT.length ∧ x.st.get q = some (.cells (ofBytes TOT) false) ∧ q < x.st.cnt) ?_ ?_
  · have hp5 : pickF.length = 5 := rfl
    have hpt : pickF.take 5 = pickF := rfl
    have k7' : ∀ n, St.get ⟨sto, n⟩ kp = some (.cells pickF false) := fun _ => k7
    rw [Z0]
    simp (disch := first | omega | rfl | assumption) only [↓Xp, ↓Xt, Xq, Xc, binP, ofCells, Nat.reduceAdd, Nat.reduceMul, Nat.reduceLT, Nat.reduceEqDiff, reduceIte, Xm, Nat.reduceLeDiff, g1, g6, g7, k7', hp5, hpt]
    refine Z9 (k := 5 - 0) (fun d x => ∃ (k q : Nat) (B : List UInt8), k ≤ 5 ∧ d = 5 - k ∧ B ++ colsF l k = TOT ∧ x.env.get 1 = .fsl l.length (evsC l) ∧ x.env.get 6 = .rsl q 1 0 B.length ∧ x.st.get q = some (.cells (ofBytes B) false) ∧ q < x.st.cnt ∧ x.env.get 44 = .agg pickF ∧ x.env.get 45 = .i .i64 (k : Int)) ?_ ?_ (by omega)
    · clear g1 g6 g7 k7 k7' kq hq ht1
      rintro d ⟨env, ⟨sto, c⟩⟩ ⟨k, q, B, hk, rfl, hB, g1, g6, kq, hq, g44, g45⟩
      simp only at g1 g6 kq hq g44 g45
      by_cases hk5 : k < 5
      · have hpa := pick_at hk5
        have hcs := colsF_step l hk5
        simp only [Nat.mul_one] at hpa
        refine WC.mono (Q := fun e x => e = .nrm ∧ ∃ (q : Nat) (B : List UInt8), B ++ colsF l (k + 1) = TOT ∧ x.env.get 1 = .fsl l.length (evsC l) ∧ x.env.get 6 = .rsl q 1 0 B.length ∧ x.st.get q = some (.cells (ofBytes B) false) ∧ q < x.st.cnt ∧ x.env.get 44 = .agg pickF ∧ x.env.get 45 = .i .i64 ((k + 1 : Nat) : Int)) ?_ ?_
        · refine Za (fun x => x.env.get 1 = .fsl l.length (evsC l) ∧ x.env.get 6 = .rsl q 1 0 B.length ∧ x.st.get q = some (.cells (ofBytes B) false) ∧ q < x.st.cnt ∧ x.env.get 44 = .agg pickF ∧ x.env.get 45 = .i .i64 (k : Int) ∧ x.env.get 46 = .b true) ?_ ?_
          · simp (disch := first | omega | rfl | assumption) only [↓Z0, ↓Xp, ↓Xt, Xq, Xc, binP, ofCells, Nat.reduceAdd, Nat.reduceMul, Nat.reduceLT, Nat.reduceEqDiff, reduceIte, Xa, Xn, g1, g6, g44, g45]
            (repeat' (first | exact True.intro | rfl | assumption | omega | apply And.intro))
          clear g1 g6 g44 g45 kq hq
          rintro ⟨env, ⟨sto, c⟩⟩ ⟨g1, g6, kq, hq, g44, g45, g46⟩
          simp only at g1 g6 g44 g45 g46 kq hq
          rw [Z0]
          simp only [↓Xp, ↓Xt, Xq, Xc, binP, ofCells, Nat.reduceAdd, Nat.reduceMul, Nat.reduceLT, Nat.reduceEqDiff, reduceIte, g46]
          refine Za (fun x => ∃ (q : Nat) (B : List UInt8), B ++ colsF l (k + 1) = TOT ∧ x.env.get 1 = .fsl l.length (evsC l) ∧ x.env.get 6 = .rsl q 1 0 B.length ∧ x.st.get q = some (.cells (ofBytes B) false) ∧ q < x.st.cnt ∧ x.env.get 44 = .agg pickF ∧ x.env.get 45 = .i .i64 (k : Int)) ?_ ?_
          · have ofc : ofCells false [PV.fn (pickId k) []] = some (.fn (pickId k) []) := rfl
            simp (disch := first | omega | rfl | assumption) only [↓Z0, ↓Xp, ↓Xt, Xq, Xc, binP, ofCells, Nat.reduceAdd, Nat.reduceMul, Nat.reduceLT, Nat.reduceEqDiff, reduceIte, Xa, Xn, g44, g45, hpa, ofc]
            refine Z9 (k := l.length - 0) (fun d x => ∃ (i : Nat) (q : Nat) (a : Int) (B : List UInt8), i ≤ l.length ∧ d = l.length - i ∧ B ++ (colT a ((l.map (colG k)).drop i) ++ colsF l (k + 1)) = TOT ∧ x.env.get 1 = .fsl l.length (evsC l) ∧ x.env.get 6 = .rsl q 1 0 B.length ∧ x.st.get q = some (.cells (ofBytes B) false) ∧ q < x.st.cnt ∧ x.env.get 44 = .agg pickF ∧ x.env.get 45 = .i .i64 (k : Int) ∧ x.env.get 10 = .fn (pickId k) [] ∧ x.env.get 11 = .i .i64 a ∧ x.env.get 12 = .i .i64 (i : Int)) ?_ ?_ (by omega)
            · clear g1 g6 g44 g45 g46 kq hq
              rintro d ⟨env, ⟨sto, c⟩⟩ ⟨i, q, a, B, hi, rfl, hB, g1, g6, kq, hq, g44, g45, g10, g11, g12⟩
              simp only at g1 g6 kq hq g44 g45 g10 g11 g12
              by_cases hlt : i < l.length
              · have hmd := map_drop hlt k
                have hps := fun st => colpick_ev (fuel := fuel) hfp hk5 (st := st) (l.getD i .zero)
                have hxk := hxp k hk5
                have hel := evsC_len l
                have hld := fun st => load_evD (st := st) hlt
                refine Za (fun x => ∃ (q : Nat), x.env.get 1 = .fsl l.length (evsC l) ∧ x.env.get 6 = .rsl q 1 0 B.length ∧ x.st.get q = some (.cells (ofBytes B) false) ∧ q < x.st.cnt ∧ x.env.get 44 = .agg pickF ∧ x.env.get 45 = .i .i64 (k : Int) ∧ x.env.get 10 = .fn (pickId k) [] ∧ x.env.get 11 = .i .i64 a ∧ x.env.get 12 = .i .i64 (i : Int)) ?_ ?_
                · simp (disch := first | omega | rfl | assumption) only [↓Z0, ↓Xp, ↓Xt, Xq, Xc, binP, ofCells, Nat.reduceAdd, Nat.reduceMul, Nat.reduceLT, Nat.reduceEqDiff, reduceIte, Xa, Xn, g1, g6, g44, g45, g10, g11, g12, hlv]
                  refine ⟨q, ?_⟩
                  (repeat' (first | exact True.intro | rfl | assumption | omega | apply And.intro))
                clear g1 g6 g44 g45 g10 g11 g12 kq hq
                rintro ⟨env, ⟨sto, c⟩⟩ ⟨q, g1, g6, kq, hq, g44, g45, g10, g11, g12⟩
                simp only at g1 g6 kq hq g44 g45 g10 g11 g12
                rw [Z2]
                refine Za (fun x => ∃ (q : Nat), x.env.get 1 = .fsl l.length (evsC l) ∧ x.env.get 6 = .rsl q 1 0 B.length ∧ x.st.get q = some (.cells (ofBytes B) false) ∧ q < x.st.cnt ∧ x.env.get 44 = .agg pickF ∧ x.env.get 45 = .i .i64 (k : Int) ∧ x.env.get 10 = .fn (pickId k) [] ∧ x.env.get 11 = .i .i64 a ∧ x.env.get 12 = .i .i64 (i : Int) ∧ x.env.get 13 = .i .i64 (stepI a (colG k (l.getD i .zero)))) ?_ ?_
                · simp (disch := first | omega | rfl | assumption) only [↓Z0, ↓Xp, ↓Xt, Xq, Xc, binP, ofCells, Nat.reduceAdd, Nat.reduceMul, Nat.reduceLT, Nat.reduceEqDiff, reduceIte, Xf, Nat.reduceLeDiff, Xa, Xn, g1, g6, g44, g45, g10, g11, g12, hel, hld, hxk]
                  refine Z0o_ (hps _) ?_
                  rintro _ st1 ⟨rfl, c1, f1⟩
                  simp only at c1 f1
                  simp (disch := first | omega | rfl | assumption) only [↓Z0, ↓Xp, ↓Xt, Xq, Xc, binP, ofCells, Nat.reduceAdd, Nat.reduceMul, Nat.reduceLT, Nat.reduceEqDiff, reduceIte]
                  refine ⟨q, rfl, ?_, by omega, rfl⟩
                  rw [f1 q (by omega)]; exact kq
                clear g1 g6 g44 g45 g10 g11 g12 kq hq
                rintro ⟨env, ⟨sto, c⟩⟩ ⟨q, g1, g6, kq, hq, g44, g45, g10, g11, g12, g13⟩
                simp only at g1 g6 kq hq g44 g45 g10 g11 g12 g13
                rw [hmd, colT_on, ← hmd] at hB
                obtain ⟨mo, hmo⟩ : ∃ m, stepI a (colG k (l.getD i .zero)) = m := ⟨_, rfl⟩
                rw [hmo] at g13 hB
                refine Za (fun x => x.env.get 1 = .fsl l.length (evsC l) ∧ x.env.get 6 = .rsl q 1 0 B.length ∧ x.st.get q = some (.cells (ofBytes B) false) ∧ q < x.st.cnt ∧ x.env.get 44 = .agg pickF ∧ x.env.get 45 = .i .i64 (k : Int) ∧ x.env.get 10 = .fn (pickId k) [] ∧ x.env.get 11 = .i .i64 a ∧ x.env.get 12 = .i .i64 (i : Int) ∧ x.env.get 13 = .i .i64 mo ∧ x.env.get 14 = .i .i64 ((0 : Nat) : Int)) ?_ ?_
                · simp (disch := first | omega | rfl | assumption) only [↓Z0, ↓Xp, ↓Xt, Xq, Xc, binP, ofCells, Nat.reduceAdd, Nat.reduceMul, Nat.reduceLT, Nat.reduceEqDiff, reduceIte, Xa, Xn, g1, g6, g44, g45, g10, g11, g12, g13]
                  (repeat' (first | exact True.intro | rfl | assumption | omega | apply And.intro))
                clear g1 g6 g44 g45 g10 g11 g12 g13 kq hq
                rintro ⟨env, ⟨sto, c⟩⟩ ⟨g1, g6, kq, hq, g44, g45, g10, g11, g12, g13, g14⟩
                simp only at g1 g6 kq hq g44 g45 g10 g11 g12 g13 g14
                refine Za (fun x => ∃ (i' run : Nat) (a' : Int), i < i' ∧ i' ≤ l.length ∧ run ≤ l.length ∧ B ++ (flushR mo run ++ (colT a' ((l.map (colG k)).drop i') ++ colsF l (k + 1))) = TOT ∧ x.env.get 1 = .fsl l.length (evsC l) ∧ x.env.get 6 = .rsl q 1 0 B.length ∧ x.st.get q = some (.cells (ofBytes B) false) ∧ q < x.st.cnt ∧ x.env.get 44 = .agg pickF ∧ x.env.get 45 = .i .i64 (k : Int) ∧ x.env.get 10 = .fn (pickId k) [] ∧ x.env.get 11 = .i .i64 a' ∧ x.env.get 12 = .i .i64 (i' : Int) ∧ x.env.get 13 = .i .i64 mo ∧ x.env.get 14 = .i .i64 (run : Int)) ?_ ?_
                · rw [Z2]
                  refine Z9 (k := l.length - i) (fun d x => ∃ (i' run : Nat) (a' : Int), i ≤ i' ∧ i' ≤ l.length ∧ d = l.length - i' ∧ run = i' - i ∧ (run = 0 → a' = a) ∧ B ++ (colR a' mo run ((l.map (colG k)).drop i') ++ colsF l (k + 1)) = TOT ∧ x.env.get 1 = .fsl l.length (evsC l) ∧ x.env.get 6 = .rsl q 1 0 B.length ∧ x.st.get q = some (.cells (ofBytes B) false) ∧ q < x.st.cnt ∧ x.env.get 44 = .agg pickF ∧ x.env.get 45 = .i .i64 (k : Int) ∧ x.env.get 10 = .fn (pickId k) [] ∧ x.env.get 11 = .i .i64 a' ∧ x.env.get 12 = .i .i64 (i' : Int) ∧ x.env.get 13 = .i .i64 mo ∧ x.env.get 14 = .i .i64 (run : Int)) ?_ ⟨i, 0, a, Nat.le_refl _, by omega, rfl, by omega, fun _ => rfl, hB, g1, g6, kq, hq, g44, g45, g10, g11, g12, g13, g14⟩ (by omega)
                  clear g1 g6 g44 g45 g10 g11 g12 g13 g14 kq hq
                  rintro d ⟨env, ⟨sto, c⟩⟩ ⟨i', run, a', hi1, hi2, rfl, hrun, hr0, hB', g1, g6, kq, hq, g44, g45, g10, g11, g12, g13, g14⟩
                  simp only at g1 g6 kq hq g44 g45 g10 g11 g12 g13 g14
                  by_cases hlt' : i' < l.length
                  · have hmd' := map_drop hlt' k
                    have hps' := fun st => colpick_ev (fuel := fuel) hfp hk5 (st := st) (l.getD i' .zero)
                    have hld' := fun st => load_evD (st := st) hlt'
                    simp (disch := first | omega | rfl | assumption) only [↓Z0, ↓Xp, ↓Xt, Xq, Xc, binP, ofCells, Nat.reduceAdd, Nat.reduceMul, Nat.reduceLT, Nat.reduceEqDiff, reduceIte, Xf, Nat.reduceLeDiff, Xa, Xn, g1, g6, g44, g45, g10, g11, g12, g13, g14, hlv, hel, hld', hxk]
                    refine Z0o_ (hps' _) ?_
                    rintro _ st1 ⟨rfl, c1, f1⟩
                    simp only at c1 f1
                    by_cases heq : stepI a' (colG k (l.getD i' .zero)) = mo
                    · have hb : (IntKind.i64.wrap (colG k (l.getD i' .zero) - a') == mo) = true := by
                        show (stepI _ _ == mo) = true
                        rw [heq]; simp
                      simp (disch := first | omega | rfl | assumption) only [↓Z0, ↓Xp, ↓Xt, Xq, Xc, binP, ofCells, Nat.reduceAdd, Nat.reduceMul, Nat.reduceLT, Nat.reduceEqDiff, reduceIte, hb]
                      refine Z0o_ (hps' _) ?_
                      rintro _ st2 ⟨rfl, c2, f2⟩
                      simp only at c2 f2
                      rw [hmd', colR_on heq] at hB'
                      refine ⟨l.length - (i' + 1), by omega, i' + 1, run + 1, colG k (l.getD i' .zero), by omega, by omega, rfl, by omega, fun h => by omega, hB', ?_, by omega, rfl, rfl, rfl⟩
                      rw [f2 q (by omega)]
                      show st1.get q = _
                      rw [f1 q (by omega)]; exact kq
                    · have hb : (IntKind.i64.wrap (colG k (l.getD i' .zero) - a') == mo) = false := by
                        show (stepI _ _ == mo) = false
                        simpa using heq
                      have hii : i < i' := by
                        rcases Nat.lt_or_ge i i' with h | h
                        · exact h
                        · exfalso
                          have e : i' = i := by omega
                          have e2 := hr0 (by omega)
                          rw [e2, e] at heq
                          exact heq hmo
                      rw [hmd', colR_off heq, ← hmd', List.append_assoc] at hB'
                      simp (disch := first | omega | rfl | assumption) only [↓Z0, ↓Xp, ↓Xt, Xq, Xc, binP, ofCells, Nat.reduceAdd, Nat.reduceMul, Nat.reduceLT, Nat.reduceEqDiff, reduceIte, hb]
                      have kq1 : st1.get q = some (.cells (ofBytes B) false) := by rw [f1 q (by omega)]; exact kq
                      refine ⟨i', run, a', hii, hi2, by omega, hB', ?_⟩
                      (repeat' (first | exact True.intro | rfl | assumption | omega | apply And.intro))
                  · have hi' : i' = l.length := by omega
                    subst hi'
                    rw [List.drop_eq_nil_of_le (by rw [List.length_map]; omega), colR_end, List.append_assoc] at hB'
                    simp (disch := first | omega | rfl | assumption) only [↓Z0, ↓Xp, ↓Xt, Xq, Xc, binP, ofCells, Nat.reduceAdd, Nat.reduceMul, Nat.reduceLT, Nat.reduceEqDiff, reduceIte, Xf, Nat.reduceLeDiff, Xa, Xn, g1, g6, g44, g45, g10, g11, g12, g13, g14, hlv]
                    refine ⟨l.length, run, a', by omega, Nat.le_refl _, by omega, ?_, ?_⟩
                    · rw [List.drop_eq_nil_of_le (by rw [List.length_map]; omega)]; exact hB'
                    · (repeat' (first | exact True.intro | rfl | assumption | omega | apply And.intro))
                clear g1 g6 g44 g45 g10 g11 g12 g13 g14 kq hq hB
                rintro ⟨env, ⟨sto, c⟩⟩ ⟨i', run, a', hi1, hi2, hrl, hB, g1, g6, kq, hq, g44, g45, g10, g11, g12, g13, g14⟩
                simp only at g1 g6 kq hq g44 g45 g10 g11 g12 g13 g14
                have hBl : B.length ≤ TOT.length := by rw [← hB, List.length_append]; omega
                have hvl := varint_le (foldN mo)
                have wr : IntKind.u64.wrap (run : Int) = (run : Int) := wr_u64 _ ⟨by omega, by omega⟩
                simp (disch := first | omega | rfl | assumption) only [↓Z0, ↓Xp, ↓Xt, Xq, Xc, binP, ofCells, Nat.reduceAdd, Nat.reduceMul, Nat.reduceLT, Nat.reduceEqDiff, reduceIte, g1, g6, g44, g45, g10, g11, g12, g13, g14]
                refine WV_intO hx2 (L := B) kq (by omega) (by rw [← hmo]; exact step_in _ _) ?_
                intro st1 k1 c1 f1
                simp only at c1
                simp (disch := first | omega | rfl | assumption) only [↓Z0, ↓Xp, ↓Xt, Xq, Xc, binP, ofCells, Nat.reduceAdd, Nat.reduceMul, Nat.reduceLT, Nat.reduceEqDiff, reduceIte, wr]
                refine WV_uintO hx1 (L := B ++ varint (foldN mo)) k1 (by rw [List.length_append]; omega) (by omega) ?_
                intro st2 k2 c2 f2
                refine ⟨l.length - i', by omega, i', c + 40, a', B ++ varint (foldN mo) ++ varint run, hi2, rfl, ?_, ?_⟩
                · rw [← hB]; simp only [flushR, List.append_assoc]
                · exact ⟨rfl, k2, by omega, rfl, rfl⟩
              · have hi' : i = l.length := by omega
                subst hi'
                rw [List.drop_eq_nil_of_le (by rw [List.length_map]; omega)] at hB
                simp only [colT, List.nil_append] at hB
                simp (disch := first | omega | rfl | assumption) only [↓Z0, ↓Xp, ↓Xt, Xq, Xc, binP, ofCells, Nat.reduceAdd, Nat.reduceMul, Nat.reduceLT, Nat.reduceEqDiff, reduceIte, Xa, Xn, g1, g6, g12, g44, g45, hlv]
                exact ⟨q, B, hB, rfl, kq, by omega⟩
            · refine ⟨0, q, 0, B, by omega, rfl, ?_, ?_⟩
              · rw [← hB, hcs]; rfl
              · simp (disch := first | omega | rfl | assumption) only [↓Z0, ↓Xp, ↓Xt, Xq, Xc, binP, ofCells, Nat.reduceAdd, Nat.reduceMul, Nat.reduceLT, Nat.reduceEqDiff, reduceIte, Xa, Xn, g1, g6, g44, g45]
                (repeat' (first | exact True.intro | rfl | assumption | omega | apply And.intro))
          clear g1 g6 g44 g45 g46 kq hq
          rintro ⟨env, ⟨sto, c⟩⟩ ⟨q, B, hB, g1, g6, kq, hq, g44, g45⟩
          simp only at g1 g6 kq hq g44 g45
          simp (disch := first | omega | rfl | assumption) only [↓Z0, ↓Xp, ↓Xt, Xq, Xc, binP, ofCells, Nat.reduceAdd, Nat.reduceMul, Nat.reduceLT, Nat.reduceEqDiff, reduceIte, Xa, Xn, g1, g6, g44, g45]
          refine ⟨q, B, hB, ?_⟩
          (repeat' (first | exact True.intro | rfl | assumption | omega | apply And.intro))
        · rintro e ⟨env, ⟨sto, c⟩⟩ ⟨rfl, q, B, h1, h2, h3, h4, h5, h6, h7⟩
          exact ⟨5 - (k + 1), by omega, k + 1, q, B, by omega, rfl, h1, h2, h3, h4, h5, h6, h7⟩
      · have hk' : k = 5 := by omega
        subst hk'
        have hB' : B = TOT := by rw [← hB]; simp [colsF]
        subst hB'
        simp (disch := first | omega | rfl | assumption) only [↓Z0, ↓Xp, ↓Xt, Xq, Xc, binP, ofCells, Nat.reduceAdd, Nat.reduceMul, Nat.reduceLT, Nat.reduceEqDiff, reduceIte, Xa, Xn, g44, g45]
        exact ⟨q, g6, kq, by omega⟩
    · refine ⟨0, q, B0, by omega, rfl, hTOT, ?_⟩
      simp (disch := first | omega | rfl | assumption) only [↓Z0, ↓Xp, ↓Xt, Xq, Xc, binP, ofCells, Nat.reduceAdd, Nat.reduceMul, Nat.reduceLT, Nat.reduceEqDiff, reduceIte, g1, g6, ofNat_c]
      exact ⟨kq, by omega⟩
  clear g1 g6 g7 k7 kq hq ht1
  rintro ⟨env, ⟨sto, c⟩⟩ ⟨q, g6, kq, hq⟩
  simp only at g6 kq hq
  simp (disch := first | omega | rfl | assumption) only [↓Z0, ↓Xp, ↓Xt, Xq, Xc, binP, ofCells, Nat.reduceAdd, Nat.reduceMul, Nat.reduceLT, Nat.reduceEqDiff, reduceIte, g6]
  refine WV_callB (L := sealB TOT) (deep_1 (deep_b (fz := false) kq)) ?_ (by first | omega | (simp only [Z0L_, Z0M_, Nat.add_assoc, Nat.reduceAdd]; omega) | (simp only; omega)) ?_
  · rw [runPure_ext hx3]
    unfold gSeal
    simp only [in_fsl]
    rw [if_pos (by omega)]
  intro st1 o1 k1 c1 f1
  refine ⟨nofun, _, rfl, ?_⟩
  simp only [tupV, ↓Z0, ↓Xp, ↓Xt, Xq, Xc, binP, ofCells, Nat.reduceAdd, Nat.reduceMul, Nat.reduceLT, Nat.reduceEqDiff, reduceIte]
  unfold packB
  rw [hdense]
  exact close_tupO (pre := []) (post := [.i .i64 0]) o1 rfl rfl (clO_bytes _) (by decide)
end Go.Pe
