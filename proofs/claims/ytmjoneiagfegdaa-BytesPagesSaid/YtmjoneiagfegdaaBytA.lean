/-
  Blobs: package bytes and the document's answer, by the interpreter of plain data. No condition.
-/
import Derived.Test.YtmjoneiagfegdaaRefD
set_option linter.unusedVariables false
set_option linter.unusedSimpArgs false
namespace Go.Pe
open Go Go.Am Go.RowKit

def blobR (l : List UInt8) (a most : Int) : Sum (List UInt8 × Int) Int :=
  if (getU l a).2.2 ≠ 0 then .inr (getU l a).2.2
  else if most < 0 ∨ most < ((getU l a).1 : Int) then .inr 3
  else if (l.length : Int) - (getU l a).2.1 < ((getU l a).1 : Int) then .inr 11
  else .inl ((l.drop (getU l a).2.1.toNat).take (getU l a).1, (getU l a).2.1 + ((getU l a).1 : Int))
def blobV (l : List UInt8) (a most : Int) : PV := match blobR l a most with
  | .inl (m, n) => .tup [outV m, .i .i64 n, .i .i64 0]
  | .inr e => .tup [.nsl, .i .i64 0, .i .i64 e]
def rblobV (l : List UInt8) (a most : Int) : PV := match blobR l a most with
  | .inl (m, n) => .tup [.osl 1 m.length (ofBytes m), .i .i64 n, .i .i64 0]
  | .inr e => .tup [.nsl, .i .i64 0, .i .i64 e]
def gRGetBlob : List PV → Option PV
  | [v, .i .i64 a, .i .i64 most] => match inL v with
    | some l => if l.length ≤ 140737488355000 ∧ -9223372036854775808 ≤ most ∧ most ≤ 9223372036854775807 then some (rblobV l a most) else none
    | none => none
  | _ => none
theorem rgetblob_ev {cfg : Cfg} (hf : cfg.fn 25 = some m25) (hx1 : cfg.ext 23 = some gRGetU) (hx2 : cfg.ext 46 = some gRAfter) {v : PV} {l : List UInt8} (hv : inL v = some l) (hl : l.length ≤ 140737488355000) {a most : Int} (hm : in64 most) {fuel : Nat} :
    ∃ r st', evFn cfg (fuel + 1) 25 [v, .i .i64 a, .i .i64 most] { sto := .leaf, cnt := 1 } = some (r, st') ∧ closeRes st' r = some (rblobV l a most) := by
  refine evFn_W hf ?_
  unfold m25
  unfold in64 at hm
  have hlv := in_len hv
  have cu := fun st key => rgetu_k (cfg := cfg) (callE := evFn cfg fuel) hx1 hv (by omega) st key a
  have hok := @getU_ok l a
  have hlt := getU_lt l a
  unfold rblobV blobR
  obtain ⟨n, hn⟩ : ∃ n, (getU l a).1 = n := ⟨_, rfl⟩
  obtain ⟨nx, hnx⟩ : ∃ n, (getU l a).2.1 = n := ⟨_, rfl⟩
  obtain ⟨e, he⟩ : ∃ n, (getU l a).2.2 = n := ⟨_, rfl⟩
  rw [hn, hnx, he]
  simp only [hn, hnx, he] at cu hok
  rw [hn] at hlt
  by_cases h0 : e = 0
  · subst h0
    rw [if_neg (by simp)]
    by_cases h1 : most < 0
    · rw [if_pos (.inl h1)]
      simp (disch := first | omega | rfl | assumption) only [putArgs, ↓Z0, ↓Xp, ↓Xt, Xq, Xc, binP, ofCells, Nat.reduceAdd, Nat.reduceMul, Nat.reduceLT, Nat.reduceEqDiff, reduceIte, Xm, Nat.reduceLeDiff, Xa, Xn, unP, len_f, len_n, len_r, cu]
      refine ⟨nofun, _, rfl, ?_⟩
      simp only [tupV, ↓Z0, ↓Xp, ↓Xt, Xq, Xc, binP, ofCells, Nat.reduceAdd, Nat.reduceMul, Nat.reduceLT, Nat.reduceEqDiff, reduceIte]
      rfl
    have hwm : IntKind.u64.wrap most = most := wr_u64 _ ⟨by omega, by omega⟩
    by_cases h2 : most < (n : Int)
    · rw [if_pos (.inr h2)]
      simp (disch := first | omega | rfl | assumption) only [putArgs, ↓Z0, ↓Xp, ↓Xt, Xq, Xc, binP, ofCells, Nat.reduceAdd, Nat.reduceMul, Nat.reduceLT, Nat.reduceEqDiff, reduceIte, Xm, Nat.reduceLeDiff, Xa, Xn, unP, len_f, len_n, len_r, cu, hwm]
      refine ⟨nofun, _, rfl, ?_⟩
      simp only [tupV, ↓Z0, ↓Xp, ↓Xt, Xq, Xc, binP, ofCells, Nat.reduceAdd, Nat.reduceMul, Nat.reduceLT, Nat.reduceEqDiff, reduceIte]
      rfl
    rw [if_neg (by simp only [not_or]; exact ⟨h1, h2⟩)]
    obtain ⟨ha0, _, rest, hd, hn2, hle⟩ := hok rfl
    obtain ⟨k, rfl⟩ : ∃ k : Nat, nx = k := ⟨nx.toNat, by omega⟩
    have hw1 : IntKind.i64.wrap ((l.length : Int) - (k : Int)) = ((l.length - k : Nat) : Int) := by
      rw [wr_i64 _ ⟨by omega, by omega⟩]; omega
    by_cases h3 : (l.length : Int) - (k : Int) < (n : Int)
    · rw [if_pos h3]
      simp (disch := first | omega | rfl | assumption) only [putArgs, ↓Z0, ↓Xp, ↓Xt, Xq, Xc, binP, ofCells, Nat.reduceAdd, Nat.reduceMul, Nat.reduceLT, Nat.reduceEqDiff, reduceIte, Xm, Nat.reduceLeDiff, Xa, Xn, unP, len_f, len_n, len_r, cu, hwm, hlv, hw1]
      refine ⟨nofun, _, rfl, ?_⟩
      simp only [tupV, ↓Z0, ↓Xp, ↓Xt, Xq, Xc, binP, ofCells, Nat.reduceAdd, Nat.reduceMul, Nat.reduceLT, Nat.reduceEqDiff, reduceIte]
      rfl
    rw [if_neg h3, Int.toNat_natCast]
    have hk1 := varint_pos n
    have hne : l ≠ [] := fun e => by rw [e] at hle; simp at hle; omega
    have hmid := mid_in hv (a := k) (n := n) (by omega) hne
    obtain ⟨m, hme⟩ : ∃ m, (l.drop k).take n = m := ⟨_, rfl⟩
    have hml : m.length = n := by rw [← hme, List.length_take, List.length_drop]; omega
    rw [hme] at hmid ⊢
    have hw2 : ((l.length : Int) - ((l.length - k : Nat) : Int)) = (k : Int) := by omega
    simp only []
    (repeat (first | rw [Z0] | simp (maxSteps := 2000000) (disch := first | omega | rfl | assumption) only [↓Xp, ↓Xt, Xq, Xc, binP, ofCells, Nat.reduceAdd, Nat.reduceMul, Nat.reduceLT, Nat.reduceEqDiff, reduceIte, Xa, Xn, unP, len_f, len_n, len_r, Xm, Nat.reduceLeDiff, List.nil_append, List.cons_append, putArgs, cu, hwm, hlv, hw1, hw2, hmid]))
    have hin : inL (.fsl n (ofBytes m)) = some m := by rw [← hml]; exact in_fsl m
    refine WV_callB (L := m) (deepL_two rfl (deep_in hin)) (by have := rafter_g (cfg := cfg) (callE := evFn cfg fuel) hx2 (show inL .nsl = some [] from rfl) hin (by simp only [List.length_nil]; omega); rwa [List.nil_append] at this) (by first | omega | (simp only [Z0L_, Z0M_, Nat.add_assoc, Nat.reduceAdd]; omega) | (simp only; omega)) ?_
    intro st1 o1 _ c1 f1
    refine ⟨nofun, _, rfl, ?_⟩
    simp only [tupV, ↓Z0, ↓Xp, ↓Xt, Xq, Xc, binP, ofCells, Nat.reduceAdd, Nat.reduceMul, Nat.reduceLT, Nat.reduceEqDiff, reduceIte]
    exact close_tupO (pre := []) (post := [.i .i64 ((k : Int) + (n : Int)), .i .i64 0]) o1 rfl rfl (clO_bytes _) (by decide)
  · rw [if_pos h0]
    simp (disch := first | omega | rfl | assumption) only [putArgs, ↓Z0, ↓Xp, ↓Xt, Xq, Xc, binP, ofCells, Nat.reduceAdd, Nat.reduceMul, Nat.reduceLT, Nat.reduceEqDiff, reduceIte, Xm, Nat.reduceLeDiff, Xa, Xn, unP, len_f, len_n, len_r, cu]
    refine ⟨nofun, _, rfl, ?_⟩
    simp only [tupV, ↓Z0, ↓Xp, ↓Xt, Xq, Xc, binP, ofCells, Nat.reduceAdd, Nat.reduceMul, Nat.reduceLT, Nat.reduceEqDiff, reduceIte]
    rfl
def gRBlob : List PV → Option PV
  | [v, w] => match inL v, inL w with
    | some l, some b => if l.length + b.length + 10 ≤ 140737488355328 then some (.osl 1 (l ++ varint b.length ++ b).length (ofBytes (l ++ varint b.length ++ b))) else none
    | _, _ => none
  | _ => none
theorem rblob_ev {cfg : Cfg} (hf : cfg.fn 32 = some m32) (hx1 : cfg.ext 29 = some gRUint) (hx2 : cfg.ext 46 = some gRAfter) {v w : PV} {l b : List UInt8} (hv : inL v = some l) (hw : inL w = some b) (hl : l.length + b.length + 10 ≤ 140737488355328) {fuel : Nat} :
    ∃ r st', evFn cfg (fuel + 1) 32 [v, w] { sto := .leaf, cnt := 1 } = some (r, st') ∧ closeRes st' r = some (.osl 1 (l ++ varint b.length ++ b).length (ofBytes (l ++ varint b.length ++ b))) := by
  refine evFn_W hf ?_
  unfold m32
  have hlv := in_len hw
  have hvl := varint_le b.length
  have hww : IntKind.u64.wrap (b.length : Int) = (b.length : Int) := wr_u64 _ ⟨by omega, by omega⟩
  (repeat (first | rw [Z0] | simp (maxSteps := 2000000) (disch := first | omega | rfl | assumption) only [↓Xp, ↓Xt, Xq, Xc, binP, ofCells, Nat.reduceAdd, Nat.reduceMul, Nat.reduceLT, Nat.reduceEqDiff, reduceIte, Xa, Xn, unP, len_f, len_n, len_r, Xm, Nat.reduceLeDiff, List.nil_append, List.cons_append, putArgs, hlv, hww]))
  refine WV_callB (L := l ++ varint b.length) (deepL_two (deep_in hv) rfl) (ruint_g hx1 hv (by omega) (by omega)) (by first | omega | (simp only [Z0L_, Z0M_, Nat.add_assoc, Nat.reduceAdd]; omega) | (simp only; omega)) ?_
  intro st1 o1 _ c1 f1
  (try simp only [Z0L_] at c1)
  refine WV_callB (L := l ++ varint b.length ++ b) (deepL_two o1.deepV (deep_in hw)) (rafter_g hx2 o1.inV hw (by rw [List.length_append]; omega)) (by omega) ?_
  intro st2 o2 k2 c2 f2
  refine ⟨nofun, _, rfl, ?_⟩
  simp only [tupV, ↓Z0, ↓Xp, ↓Xt, Xq, Xc, binP, ofCells, Nat.reduceAdd, Nat.reduceMul, Nat.reduceLT, Nat.reduceEqDiff, reduceIte]
  exact close_bytes k2
def gGetBlob : List PV → Option PV
  | [v, .i .i64 a, .i .i64 most] => match inL v with
    | some l => if l.length ≤ 140737488355000 ∧ -9223372036854775808 ≤ most ∧ most ≤ 9223372036854775807 then some (blobV l a most) else none
    | none => none
  | _ => none
theorem getblob_ev {cfg : Cfg} (hf : cfg.fn 22 = some m22) (hx1 : cfg.ext 12 = some gGetU) (hx2 : cfg.ext 43 = some gClone) {v : PV} {l : List UInt8} (hv : inL v = some l) (hl : l.length ≤ 140737488355000) {a most : Int} (hm : in64 most) {fuel : Nat} :
    ∃ r st', evFn cfg (fuel + 1) 22 [v, .i .i64 a, .i .i64 most] { sto := .leaf, cnt := 1 } = some (r, st') ∧ closeRes st' r = some (blobV l a most) := by
  refine evFn_W hf ?_
  unfold m22
  unfold in64 at hm
  have hlv := in_len hv
  have cu : ∀ (st : St) (key : Nat), callStep (runPure cfg (evFn cfg fuel) 12) false st key [v, .i .i64 a] = some (.tup [.i .u64 ((getU l a).1 : Int), .i .i64 (getU l a).2.1, .i .i64 (getU l a).2.2], st) := fun st key => by
    refine callStep_flat (by simp only [List.all_cons, in_flat hv, List.all_nil, Bool.and_self, Bool.true_and]; rfl) ?_ rfl
    rw [runPure_ext hx1]
    unfold gGetU
    simp only [hv]
    rw [if_pos (by omega)]
    rfl
  have hok := @getU_ok l a
  have hbad := @getU_bad l a
  have hlt := getU_lt l a
  unfold blobV blobR
  obtain ⟨n, hn⟩ : ∃ n, (getU l a).1 = n := ⟨_, rfl⟩
  obtain ⟨nx, hnx⟩ : ∃ n, (getU l a).2.1 = n := ⟨_, rfl⟩
  obtain ⟨e, he⟩ : ∃ n, (getU l a).2.2 = n := ⟨_, rfl⟩
  rw [hn, hnx, he]
  simp only [hn, hnx, he] at cu hok
  rw [hn] at hlt
  by_cases h0 : e = 0
  · subst h0
    rw [if_neg (by simp)]
    by_cases h1 : most < 0
    · rw [if_pos (.inl h1)]
      simp (disch := first | omega | rfl | assumption) only [putArgs, ↓Z0, ↓Xp, ↓Xt, Xq, Xc, binP, ofCells, Nat.reduceAdd, Nat.reduceMul, Nat.reduceLT, Nat.reduceEqDiff, reduceIte, Xm, Nat.reduceLeDiff, Xa, Xn, unP, len_f, len_n, len_r, cu]
      refine ⟨nofun, _, rfl, ?_⟩
      simp only [tupV, ↓Z0, ↓Xp, ↓Xt, Xq, Xc, binP, ofCells, Nat.reduceAdd, Nat.reduceMul, Nat.reduceLT, Nat.reduceEqDiff, reduceIte]
      rfl
    have hwm : IntKind.u64.wrap most = most := wr_u64 _ ⟨by omega, by omega⟩
    by_cases h2 : most < (n : Int)
    · rw [if_pos (.inr h2)]
      simp (disch := first | omega | rfl | assumption) only [putArgs, ↓Z0, ↓Xp, ↓Xt, Xq, Xc, binP, ofCells, Nat.reduceAdd, Nat.reduceMul, Nat.reduceLT, Nat.reduceEqDiff, reduceIte, Xm, Nat.reduceLeDiff, Xa, Xn, unP, len_f, len_n, len_r, cu, hwm]
      refine ⟨nofun, _, rfl, ?_⟩
      simp only [tupV, ↓Z0, ↓Xp, ↓Xt, Xq, Xc, binP, ofCells, Nat.reduceAdd, Nat.reduceMul, Nat.reduceLT, Nat.reduceEqDiff, reduceIte]
      rfl
    rw [if_neg (by simp only [not_or]; exact ⟨h1, h2⟩)]
    obtain ⟨ha0, _, rest, hd, hn2, hle⟩ := hok rfl
    obtain ⟨k, rfl⟩ : ∃ k : Nat, nx = k := ⟨nx.toNat, by omega⟩
    obtain ⟨w, hsl, hw⟩ := slice_in hv (a := k) (by omega)
    have hlw := in_len hw
    rw [List.length_drop] at hlw
    have hw1 : IntKind.u64.wrap ((l.length - k : Nat) : Int) = ((l.length - k : Nat) : Int) := wr_u64 _ ⟨by omega, by omega⟩
    by_cases h3 : (l.length : Int) - (k : Int) < (n : Int)
    · rw [if_pos h3]
      simp (disch := first | omega | rfl | assumption) only [putArgs, ↓Z0, ↓Xp, ↓Xt, Xq, Xc, binP, ofCells, Nat.reduceAdd, Nat.reduceMul, Nat.reduceLT, Nat.reduceEqDiff, reduceIte, Xm, Nat.reduceLeDiff, Xa, Xn, unP, len_f, len_n, len_r, cu, hwm, hlv, hsl, hlw, hw1]
      refine ⟨nofun, _, rfl, ?_⟩
      simp only [tupV, ↓Z0, ↓Xp, ↓Xt, Xq, Xc, binP, ofCells, Nat.reduceAdd, Nat.reduceMul, Nat.reduceLT, Nat.reduceEqDiff, reduceIte]
      rfl
    rw [if_neg h3, Int.toNat_natCast]
    have hk1 := varint_pos n
    have hne : l ≠ [] := fun e => by rw [e] at hle; simp at hle; omega
    have hmid := mid_in hv (a := k) (n := n) (by omega) hne
    obtain ⟨m, hme⟩ : ∃ m, (l.drop k).take n = m := ⟨_, rfl⟩
    have hml : m.length = n := by rw [← hme, List.length_take, List.length_drop]; omega
    rw [hme] at hmid ⊢
    have hin : inL (.fsl n (ofBytes m)) = some m := by rw [← hml]; exact in_fsl m
    have hwn : IntKind.i64.wrap (n : Int) = (n : Int) := wr_i64 _ ⟨by omega, by omega⟩
    simp only []
    by_cases hm0 : m = []
    · subst hm0
      have hn0 : n = 0 := by rw [← hml]; rfl
      subst hn0
      simp only [Nat.add_zero] at hmid
      have hcl : ∀ (st : St) key, callStep (runPure cfg (evFn cfg fuel) 43) false st key [.fsl 0 (ofBytes [])] = some (.fsl 0 [], st) := fun st key => by
        refine callStep_flat rfl ?_ rfl
        rw [runPure_ext hx2]; rfl
      simp (disch := first | omega | rfl | assumption) only [putArgs, ↓Z0, ↓Xp, ↓Xt, Xq, Xc, binP, ofCells, Nat.reduceAdd, Nat.reduceMul, Nat.reduceLT, Nat.reduceEqDiff, reduceIte, Xm, Nat.reduceLeDiff, Xa, Xn, unP, len_f, len_n, len_r, cu, hwm, hlv, hsl, hlw, hw1, hwn, hmid, hcl]
      refine ⟨nofun, _, rfl, ?_⟩
      simp only [tupV, ↓Z0, ↓Xp, ↓Xt, Xq, Xc, binP, ofCells, Nat.reduceAdd, Nat.reduceMul, Nat.reduceLT, Nat.reduceEqDiff, reduceIte]
      rfl
    · have gcl : runPure cfg (evFn cfg fuel) 43 [.fsl n (ofBytes m)] = some (.osl 1 m.length (ofBytes m)) := by
        rw [runPure_ext hx2]
        have hz : n ≠ 0 := fun e => hm0 (List.length_eq_zero_iff.1 (by omega))
        unfold gClone
        split
        · rename_i h; simp at h; omega
        · rename_i h; simp at h; rw [← h, hin]
          simp only []
          rw [if_neg hm0, if_pos (by omega)]
        · rename_i h1 h2; simp at h2
      have hout : outV m = .osl 1 m.length (ofBytes m) := by unfold outV; rw [if_neg hm0]
      rw [hout]
      (repeat (first | rw [Z0] | simp (maxSteps := 2000000) (disch := first | omega | rfl | assumption) only [↓Xp, ↓Xt, Xq, Xc, binP, ofCells, Nat.reduceAdd, Nat.reduceMul, Nat.reduceLT, Nat.reduceEqDiff, reduceIte, Xa, Xn, unP, len_f, len_n, len_r, Xm, Nat.reduceLeDiff, List.nil_append, List.cons_append, putArgs, cu, hwm, hlv, hsl, hlw, hw1, hwn, hmid]))
      refine WV_callB (L := m) (deepL_one (deep_in hin)) gcl (by first | omega | (simp only [Z0L_, Z0M_, Nat.add_assoc, Nat.reduceAdd]; omega) | (simp only; omega)) ?_
      intro st1 o1 _ c1 f1
      refine ⟨nofun, _, rfl, ?_⟩
      simp only [tupV, ↓Z0, ↓Xp, ↓Xt, Xq, Xc, binP, ofCells, Nat.reduceAdd, Nat.reduceMul, Nat.reduceLT, Nat.reduceEqDiff, reduceIte]
      exact close_tupO (pre := []) (post := [.i .i64 ((k + n : Nat) : Int), .i .i64 0]) o1 rfl rfl (clO_bytes _) (by decide)
  · rw [if_pos h0]
    simp (disch := first | omega | rfl | assumption) only [putArgs, ↓Z0, ↓Xp, ↓Xt, Xq, Xc, binP, ofCells, Nat.reduceAdd, Nat.reduceMul, Nat.reduceLT, Nat.reduceEqDiff, reduceIte, Xm, Nat.reduceLeDiff, Xa, Xn, unP, len_f, len_n, len_r, cu]
    refine ⟨nofun, _, rfl, ?_⟩
    simp only [tupV, ↓Z0, ↓Xp, ↓Xt, Xq, Xc, binP, ofCells, Nat.reduceAdd, Nat.reduceMul, Nat.reduceLT, Nat.reduceEqDiff, reduceIte]
    rfl
def gBlob : List PV → Option PV
  | [v, w] => match outL v, inL w with
    | some l, some b => if l.length + b.length + 10 ≤ 140737488355328 then some (.osl 1 (l ++ varint b.length ++ b).length (ofBytes (l ++ varint b.length ++ b))) else none
    | _, _ => none
  | _ => none
theorem deep_pair2 {st : St} {k k2 : Nat} {w : PV} {l : List UInt8} (hk : st.get k = some (.cells [.rsl k2 1 0 l.length, w] false)) (hw : w.flat = true) (hk2 : st.get k2 = some (.cells (ofBytes l) false)) : deepL st [.rsl k 1 0 2] = some [.fsl 2 [.fsl l.length (ofBytes l), w]] := by
  have e : deep st (11 + 1) (.rsl k 1 0 2) = some (.fsl 2 [.fsl l.length (ofBytes l), w]) := by
    unfold deep
    simp only [hk, cut?]
    have e1 : deep st 11 w = some w := deep_some 10 hw
    have e2 : deep st 11 (.rsl k2 1 0 l.length) = some (.fsl l.length (ofBytes l)) := deep_bytesF 9 hk2
    rw [if_pos (by simp)]
    simp only [List.drop_zero, Nat.mul_one, List.take_succ_cons, List.take_zero, mapO, e1, e2]
    rfl
  show mapO (deep st (11 + 1)) [.rsl k 1 0 2] = _
  simp only [mapO, e]
theorem blob_ev {cfg : Cfg} (hf : cfg.fn 31 = some m31) (hx1 : cfg.ext 11 = some gUint) (hx2 : cfg.ext 41 = some gConcat) {st : St} {v w : PV} {l b : List UInt8} (hv : OutOK st v l) (hw : inL w = some b) (hl : l.length + b.length + 10 ≤ 140737488355328) {fuel : Nat} :
    ∃ r st', evFn cfg (fuel + 1) 31 [v, w] st = some (r, st') ∧ ∃ k, r = .rsl k 1 0 (l ++ varint b.length ++ b).length ∧ st'.get k = some (.cells (ofBytes (l ++ varint b.length ++ b)) false) := by
  refine evFn_W hf ?_
  unfold m31
  have hlv := in_len hw
  have hvl := varint_le b.length
  have hww : IntKind.u64.wrap (b.length : Int) = (b.length : Int) := wr_u64 _ ⟨by omega, by omega⟩
  obtain ⟨hw1, hw2⟩ := in_one hw
  have hO : OutOK ⟨st.sto, st.cnt + 80⟩ v l := by
    rcases hv with h | ⟨k, h1, h2, h3⟩
    · exact .inl h
    · exact .inr ⟨k, h1, h2, by show k < st.cnt + 80; omega⟩
  obtain ⟨st1, e1, k1, c1, _⟩ := call_out (g := runPure cfg (evFn cfg fuel) 11) (key := st.cnt + 40) (l' := l ++ varint b.length) (rest := [.i .u64 (b.length : Int)]) hO rfl (fun v' hv' => by
    rw [runPure_ext hx1]
    unfold gUint
    simp only [hv', Int.toNat_natCast]
    rw [if_pos ⟨by omega, by omega, by unfold maxBytes; omega⟩])
  simp only at c1
  obtain ⟨L, hL⟩ : ∃ L, l ++ varint b.length = L := ⟨_, rfl⟩
  have hLl : L.length = l.length + (varint b.length).length := by rw [← hL, List.length_append]
  rw [hL] at e1 k1 ⊢
  have h1 := varint_pos b.length
  (repeat (first | rw [Z0] | simp (maxSteps := 2000000) (disch := first | omega | rfl | assumption) only [↓Xp, ↓Xt, Xq, Xc, binP, ofCells, Nat.reduceAdd, Nat.reduceMul, Nat.reduceLT, Nat.reduceEqDiff, reduceIte, Xa, Xn, unP, len_f, len_n, len_r, Xm, Nat.reduceLeDiff, List.nil_append, List.cons_append, putArgs, hlv, hww]))
  rw [e1]
  simp (disch := first | omega | rfl | assumption) only [Zx, Xm, Nat.reduceLeDiff, hw1, hw2, List.append_nil]
  have hd : deepL (st1.put (st.cnt + 56) (some (.cells [.rsl (st.cnt + 40) 1 0 L.length, w] false))) [.rsl (st.cnt + 56) 1 0 2] = some [.fsl 2 [.fsl L.length (ofBytes L), w]] := deep_pair2 (St.get_putk _ _ _) (in_flat hw) (by rw [St.get_put_ne (by omega)]; exact k1)
  have hg : runPure cfg (evFn cfg fuel) 41 [.fsl 2 [.fsl L.length (ofBytes L), w]] = some (.osl 1 (L ++ b).length (ofBytes (L ++ b))) := by
    rw [runPure_ext hx2]
    unfold gConcat
    simp only [in_fsl, hw]
    rw [if_pos ⟨by omega, by omega⟩]
  simp only [List.length_cons, List.length_nil, Nat.zero_add, Nat.reduceAdd, Nat.le_refl, and_self, if_true, Zx, call_deep hd hg]
  refine ⟨nofun, _, rfl, st.cnt + 64, ?_, St.get_putk _ _ _⟩
  simp only [tupV, ↓Z0, ↓Xp, ↓Xt, Xq, Xc, binP, ofCells, Nat.reduceAdd, Nat.reduceMul, Nat.reduceLT, Nat.reduceEqDiff, reduceIte]
def extB1 : FuncId → Option (List PV → Option PV) := fun f => if f = 23 then some gRGetU else if f = 46 then some gRAfter else if f = 29 then some gRUint else none
noncomputable def cfgB1 : Cfg := { fn := fun f => lookT f tblL, ext := extB1 }
theorem extB1_ok {Gl : Gmap} : ∀ f g, extB1 f = some g → PureOK Go.Proofs.Try.prog Gl f g := by
  intro f g h
  unfold extB1 at h
  by_cases e : f = 23
  · subst e; rw [if_pos rfl] at h; cases h
    exact pure_of cfgR1_ok rgetu_any
  rw [if_neg e] at h; clear e
  by_cases e : f = 46
  · subst e; rw [if_pos rfl] at h; cases h
    exact pure_of cfgR0_ok after_any
  rw [if_neg e] at h; clear e
  by_cases e : f = 29
  · subst e; rw [if_pos rfl] at h; cases h
    exact pure_of cfgR1_ok ruint_any
  rw [if_neg e] at h; clear e
  cases h
theorem cfgB1_ok {Gl : Gmap} : CfgOK Go.Proofs.Try.prog Gl cfgB1 := cfg_okt tbl_all extB1_ok
theorem hxB1_gRGetU : extB1 23 = some gRGetU := by kernel_rfl
theorem hxB1_gRAfter : extB1 46 = some gRAfter := by kernel_rfl
theorem hxB1_gRUint : extB1 29 = some gRUint := by kernel_rfl

theorem rgetblob_any (args : List PV) (r : PV) (h : gRGetBlob args = some r) : ∃ fuel, evP cfgB1 fuel 25 args = some r := by
  unfold gRGetBlob at h
  split at h
  · split at h
    · rename_i v a most l hl
      split at h
      · rename_i hc
        simp only [Option.some.injEq] at h
        subst h
        exact ⟨0 + 1, evP_of (by kernel_rfl) (open_in hl) (rgetblob_ev (cfg := cfgB1) (by kernel_rfl) (by kernel_rfl) (by kernel_rfl) hl hc.1 ⟨hc.2.1, hc.2.2⟩)⟩
      · simp at h
    · simp at h
  · simp at h
theorem rblob_any (args : List PV) (r : PV) (h : gRBlob args = some r) : ∃ fuel, evP cfgB1 fuel 32 args = some r := by
  unfold gRBlob at h
  split at h
  · split at h
    · rename_i l b hl hb
      split at h
      · rename_i hc
        simp only [Option.some.injEq] at h
        subst h
        exact ⟨0 + 1, evP_of (by kernel_rfl) (open_in hl) (rblob_ev (cfg := cfgB1) (by kernel_rfl) (by kernel_rfl) (by kernel_rfl) hl hb hc)⟩
      · simp at h
    · simp at h
  · simp at h
def extB2 : FuncId → Option (List PV → Option PV) := fun f => if f = 12 then some gGetU else if f = 43 then some gClone else if f = 11 then some gUint else if f = 41 then some gConcat else none
noncomputable def cfgB2 : Cfg := { fn := fun f => lookT f tblL, ext := extB2 }
theorem extB2_ok {Gl : Gmap} : ∀ f g, extB2 f = some g → PureOK Go.Proofs.Try.prog Gl f g := by
  intro f g h
  unfold extB2 at h
  by_cases e : f = 12
  · subst e; rw [if_pos rfl] at h; cases h
    exact pure_of cfgK1_ok getu_any
  rw [if_neg e] at h; clear e
  by_cases e : f = 43
  · subst e; rw [if_pos rfl] at h; cases h
    exact clone_ok
  rw [if_neg e] at h; clear e
  by_cases e : f = 11
  · subst e; rw [if_pos rfl] at h; cases h
    exact pure_of cfgE0_ok' uint_any
  rw [if_neg e] at h; clear e
  by_cases e : f = 41
  · subst e; rw [if_pos rfl] at h; cases h
    exact pure_of cfgG_ok concat_any
  rw [if_neg e] at h; clear e
  cases h
theorem cfgB2_ok {Gl : Gmap} : CfgOK Go.Proofs.Try.prog Gl cfgB2 := cfg_okt tbl_all extB2_ok
theorem hxB2_gGetU : extB2 12 = some gGetU := by kernel_rfl
theorem hxB2_gClone : extB2 43 = some gClone := by kernel_rfl
theorem hxB2_gUint : extB2 11 = some gUint := by kernel_rfl
theorem hxB2_gConcat : extB2 41 = some gConcat := by kernel_rfl

theorem getblob_any (args : List PV) (r : PV) (h : gGetBlob args = some r) : ∃ fuel, evP cfgB2 fuel 22 args = some r := by
  unfold gGetBlob at h
  split at h
  · split at h
    · rename_i v a most l hl
      split at h
      · rename_i hc
        simp only [Option.some.injEq] at h
        subst h
        exact ⟨0 + 1, evP_of (by kernel_rfl) (open_in hl) (getblob_ev (cfg := cfgB2) (by kernel_rfl) (by kernel_rfl) (by kernel_rfl) hl hc.1 ⟨hc.2.1, hc.2.2⟩)⟩
      · simp at h
    · simp at h
  · simp at h
theorem blob_any (args : List PV) (r : PV) (h : gBlob args = some r) : ∃ fuel, evP cfgB2 fuel 31 args = some r := by
  unfold gBlob at h
  split at h
  · rename_i v w
    split at h
    · rename_i l b hl hb
      split at h
      · rename_i hc
        simp only [Option.some.injEq] at h
        subst h
        obtain ⟨v', e1, e2, e3⟩ := open_out (rest := [w]) hl
        refine ⟨0 + 1, evP_own (by kernel_rfl) ?_⟩
        rw [e1]
        obtain ⟨r, st', h1, q, h2, h3⟩ := blob_ev (cfg := cfgB2) (by kernel_rfl) (by kernel_rfl) (by kernel_rfl) (fuel := 0) e2 hb hc
        exact ⟨r, st', h1, by rw [h2]; exact close_bytes h3⟩
      · simp at h
    · simp at h
  · simp at h
end Go.Pe
