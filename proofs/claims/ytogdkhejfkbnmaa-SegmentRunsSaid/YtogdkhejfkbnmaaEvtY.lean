/-
  What was sealed, by the interpreter of plain data. No condition.
-/
import Derived.Test.YtogdkhejfkbnmaaEvtX
set_option linter.unusedVariables false
set_option linter.unusedSimpArgs false
namespace Go.Pe
open Go Go.Am Go.RowKit

theorem close_pair {st : St} {k : Nat} {l : List UInt8} {kk : IntKind} {n : Int} (hk : st.get k = some (.cells (ofBytes l) false)) : closeRes st (.tup [.rsl k 1 0 l.length, .i kk n]) = some (.tup [.osl 1 l.length (ofBytes l), .i kk n]) := by
  have hw : whole? st (.rsl k 1 0 l.length) = some (k, 1, l.length, ofBytes l) := by
    unfold whole?
    simp only [hk, len_ofBytes]
    rw [if_pos ⟨trivial, by omega, by omega⟩]
  have hf : firstWhole st [.rsl k 1 0 l.length, .i kk n] = some (0, k, 1, l.length, ofBytes l) := by
    unfold firstWhole
    rw [hw]
  unfold closeRes
  simp only [hf, keys_ofBytes, deepL_flat (flat_ofBytes l)]
  rfl
theorem upto_in {v : PV} {l : List UInt8} (h : inL v = some l) {a : Nat} (ha : a ≤ l.length) (hl : l ≠ []) : sliceP 1 none (some (.i .i64 (a : Int))) v = some (.fsl a (ofBytes (l.take a))) := by
  rw [in_cons h hl]
  unfold sliceP
  simp only [Z0B_, bound_ok (show 0 ≤ (a : Int) ∧ (a : Int) ≤ (l.length : Int) by omega), Int.toNat_natCast, len_ofBytes, Nat.mul_one, if_true, Nat.zero_mul, Nat.sub_zero, List.drop_zero]
  rw [take_ofBytes]
theorem in_take {l : List UInt8} {a : Nat} (ha : a ≤ l.length) : inL (.fsl a (ofBytes (l.take a))) = some (l.take a) := by
  have := in_fsl (l.take a)
  rwa [List.length_take, Nat.min_eq_left ha] at this
def unsealV (l : List UInt8) : PV := if l.length < 4 then .tup [.nsl, .i .i64 11] else if sealB (l.take (l.length - 4)) = l then .tup [outV (l.take (l.length - 4)), .i .i64 0] else .tup [.nsl, .i .i64 12]
theorem deep_rf {st : St} {k : Nat} {l : List UInt8} {v : PV} (hk : st.get k = some (.cells (ofBytes l) false)) (hv : v.flat = true) : deepL st [.rsl k 1 0 l.length, v] = some [.fsl l.length (ofBytes l), v] := by
  have e1 : deep st (11 + 1) (.rsl k 1 0 l.length) = some (.fsl l.length (ofBytes l)) := deep_bytesF 10 hk
  have e2 : deep st (11 + 1) v = some v := deep_some 11 hv
  show mapO (deep st (11 + 1)) _ = _
  simp only [mapO, e1, e2]
set_option maxHeartbeats 4000000 in
theorem unseal_ev {cfg : Cfg} (hf : cfg.fn 43 = some m43) (hx1 : cfg.ext 31 = some gSeal) (hx2 : cfg.ext 71 = some gEqual) (hx3 : cfg.ext 72 = some gClone) {fuel : Nat} {st : St} {v : PV} {l : List UInt8} (hv : inL v = some l) (hll : l.length ≤ 140737488355328) :
    ∃ r st', evFn cfg (fuel + 1) 43 [v] st = some (r, st') ∧ closeRes st' r = some (unsealV l) := by
  refine evFn_W hf ?_
  unfold m43
  have hlen := in_len hv
  unfold unsealV
  by_cases h4 : l.length < 4
  · have e4 : ((l.length : Nat) : Int) < Int.ofNat 4 := by show ((l.length : Nat) : Int) < 4; omega
    rw [if_pos h4]
    simp only [putArgs, ↓Z0, ↓Xp, ↓Xt, Xq, Xc, binP, ofCells, Nat.reduceAdd, Nat.reduceMul, Nat.reduceLT, Nat.reduceEqDiff, reduceIte, hlen, e4]
    refine ⟨nofun, _, rfl, ?_⟩
    simp only [tupV, ↓Z0, ↓Xp, ↓Xt, Xq, Xc, binP, ofCells, Nat.reduceAdd, Nat.reduceMul, Nat.reduceLT, Nat.reduceEqDiff, reduceIte]
    exact closeRes_tup rfl
  have e4 : ¬ ((l.length : Nat) : Int) < Int.ofNat 4 := by show ¬ ((l.length : Nat) : Int) < 4; omega
  rw [if_neg h4]
  have hne : l ≠ [] := by intro e; rw [e] at h4; simp at h4
  have hw : IntKind.i64.wrap ((l.length : Int) - Int.ofNat 4) = ((l.length - 4 : Nat) : Int) := by
    rw [wr_i64 _ ⟨by show _ ≤ (l.length : Int) - 4; omega, by show (l.length : Int) - 4 < _; omega⟩]
    show (l.length : Int) - 4 = _
    omega
  have hs := upto_in hv (a := l.length - 4) (by omega) hne
  have hin := in_take (l := l) (a := l.length - 4) (by omega)
  have htl : (l.take (l.length - 4)).length = l.length - 4 := by rw [List.length_take]; omega
  generalize hin0 : l.take (l.length - 4) = m at *
  have c1 : ∀ (st : St) (key : Nat), callStep (runPure cfg (evFn cfg fuel) 31) false st key [.fsl (l.length - 4) (ofBytes m)] = some (.rsl key 1 0 (sealB m).length, st.put key (some (.cells (ofBytes (sealB m)) false))) := by
    intro st key
    refine call_deep (ps' := [.fsl (l.length - 4) (ofBytes m)]) (deepL_flat rfl) ?_
    rw [runPure_ext hx1]
    unfold gSeal
    simp only [hin]
    rw [if_pos (by omega)]
  have c2 : ∀ (st : St) (key k : Nat), st.get k = some (.cells (ofBytes (sealB m)) false) → callStep (runPure cfg (evFn cfg fuel) 71) false st key [.rsl k 1 0 (sealB m).length, v] = some (.b (sealB m == l), st) := by
    intro st key k hk
    refine call_deepb (deep_rf hk (in_flat hv)) ?_ rfl rfl
    rw [runPure_ext hx2]
    unfold gEqual
    simp only [in_fsl, hv]
    have : (sealB m).length ≤ 140737488355328 := by unfold sealB be4; simp; omega
    rw [if_pos this]
  by_cases hq : sealB m = l
  · rw [if_pos hq]
    have hqb : (sealB m == l) = true := by simpa using hq
    rw [hqb] at c2
    by_cases hm : m = []
    · have hz : outV m = .fsl 0 [] := by unfold outV; rw [if_pos hm]
      have hl4 : l.length - 4 = 0 := by rw [← htl, hm]; rfl
      have hb0 : ofBytes m = [] := by rw [hm]; rfl
      rw [hz]
      rw [hl4, hb0] at hs c1
      rw [hl4] at hw
      have c3 : ∀ (st : St) (key : Nat), callStep (runPure cfg (evFn cfg fuel) 72) false st key [.fsl 0 []] = some (.fsl 0 [], st) := by
        intro st key
        refine call_deepb (ps' := [.fsl 0 []]) (deepL_flat rfl) ?_ rfl rfl
        rw [runPure_ext hx3]
        rfl
      simp only [putArgs, ↓Z0, ↓Xp, ↓Xt, Xq, Xc, binP, ofCells, Nat.reduceAdd, Nat.reduceMul, Nat.reduceLT, Nat.reduceEqDiff, reduceIte, Xm, Nat.reduceLeDiff, hlen, e4, hw, hs, c1, c2, unP, c3]
      refine ⟨nofun, _, rfl, ?_⟩
      simp only [tupV, ↓Z0, ↓Xp, ↓Xt, Xq, Xc, binP, ofCells, Nat.reduceAdd, Nat.reduceMul, Nat.reduceLT, Nat.reduceEqDiff, reduceIte]
      exact closeRes_tup rfl
    · have hz : outV m = .osl 1 m.length (ofBytes m) := by unfold outV; rw [if_neg hm]
      rw [hz]
      have c3 : ∀ (st : St) (key : Nat), callStep (runPure cfg (evFn cfg fuel) 72) false st key [.fsl (l.length - 4) (ofBytes m)] = some (.rsl key 1 0 m.length, st.put key (some (.cells (ofBytes m) false))) := by
        intro st key
        refine call_deep (ps' := [.fsl (l.length - 4) (ofBytes m)]) (deepL_flat rfl) ?_
        rw [runPure_ext hx3]
        have hg : gClone [.fsl (l.length - 4) (ofBytes m)] = match inL (.fsl (l.length - 4) (ofBytes m)) with
          | some l => if l = [] then none else if l.length ≤ 140737488355328 then some (.osl 1 l.length (ofBytes l)) else none
          | none => none := by
          unfold gClone
          split
          · rename_i h
            simp only [List.cons.injEq, PV.fsl.injEq, and_true] at h
            have := congrArg List.length h.2
            rw [len_ofBytes] at this
            exact absurd (List.length_eq_zero_iff.1 this) hm
          · rename_i h; simp only [List.cons.injEq, and_true] at h; subst h; rfl
          · rename_i h; simp at h
        rw [hg]
        simp only [hin]
        rw [if_neg hm, if_pos (by omega)]
      simp only [putArgs, ↓Z0, ↓Xp, ↓Xt, Xq, Xc, binP, ofCells, Nat.reduceAdd, Nat.reduceMul, Nat.reduceLT, Nat.reduceEqDiff, reduceIte, Xm, Nat.reduceLeDiff, hlen, e4, hw, hs, c1, c2, unP, c3]
      refine ⟨nofun, _, rfl, ?_⟩
      simp only [tupV, ↓Z0, ↓Xp, ↓Xt, Xq, Xc, binP, ofCells, Nat.reduceAdd, Nat.reduceMul, Nat.reduceLT, Nat.reduceEqDiff, reduceIte]
      exact close_pair (St.get_putk _ _ _)
  · rw [if_neg hq]
    have hqb : (sealB m == l) = false := by simpa using hq
    rw [hqb] at c2
    simp only [putArgs, ↓Z0, ↓Xp, ↓Xt, Xq, Xc, binP, ofCells, Nat.reduceAdd, Nat.reduceMul, Nat.reduceLT, Nat.reduceEqDiff, reduceIte, Xm, Nat.reduceLeDiff, hlen, e4, hw, hs, c1, c2, unP]
    refine ⟨nofun, _, rfl, ?_⟩
    simp only [tupV, ↓Z0, ↓Xp, ↓Xt, Xq, Xc, binP, ofCells, Nat.reduceAdd, Nat.reduceMul, Nat.reduceLT, Nat.reduceEqDiff, reduceIte]
    exact closeRes_tup rfl
def gUnseal : List PV → Option PV
  | [v] => match inL v with
    | some l => if l.length ≤ 140737488355328 then some (unsealV l) else none
    | none => none
  | _ => none
end Go.Pe
