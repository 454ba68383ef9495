/-
  Bytes, events: signed numbers laid out; an event, laid out: by the interpreter of plain data. No condition.
-/
import Derived.Test.YtogdkhejfkbnmaaEvtU
set_option linter.unusedVariables false
set_option linter.unusedSimpArgs false
namespace Go.Pe
open Go Go.Am Go.RowKit

theorem fold_ev {cfg : Cfg} (hf : cfg.fn 70 = some m70) {fuel : Nat} {st : St} {n : Int} (hn : in64 n) :
    ∃ r st', evFn cfg (fuel + 1) 70 [.i .i64 n] st = some (r, st') ∧ r = .i .u64 ((foldN n : Nat) : Int) := by
  refine evFn_W hf ?_
  unfold m70
  unfold in64 at hn
  have h63 : ¬ (Int.ofNat 63 < 0) := by decide
  have h10 : ¬ (Int.ofNat 1 < 0) := by decide
  have e63 : (2 : Int) ^ (min (Int.ofNat 63).toNat IntKind.i64.bits) = 9223372036854775808 := by rfl
  have e1 : (2 : Int) ^ (min (Int.ofNat 1).toNat IntKind.u64.bits) = 2 := by rfl
  have x64 : IntKind.u64.wrap n = ((n % 18446744073709551616).toNat : Int) := by rw [IntKind.wrap_u64]; omega
  have x642 : IntKind.u64.wrap (((n % 18446744073709551616).toNat : Int) * 2) = ((2 * n % 18446744073709551616).toNat : Int) := by rw [IntKind.wrap_u64]; omega
  by_cases h : 0 ≤ n
  · have hd : n.fdiv 9223372036854775808 = ((0 : Nat) : Int) := by rw [Int.fdiv_eq_ediv_of_nonneg _ (by decide)]; omega
    have hw : IntKind.u64.wrap ((0 : Nat) : Int) = ((0 : Nat) : Int) := by rfl
    have hx : ibits .xor .u64 ((0 : Nat) : Int) ((2 * n % 18446744073709551616).toNat : Int) = some (.i .u64 ((foldN n : Nat) : Int)) := by
      rw [ibits_xor64 0 _ (by decide) (by omega), Nat.zero_xor]
      unfold foldN
      rw [if_pos h]
      congr 3
      omega
    simp only [putArgs, ↓Z0, ↓Xp, ↓Xt, Xq, Xc, binP, ofCells, Nat.reduceAdd, Nat.reduceMul, Nat.reduceLT, Nat.reduceEqDiff, reduceIte, Xm, Nat.reduceLeDiff, h63, h10, e63, e1, hd, hw, x64, x642, hx]
    refine ⟨nofun, _, rfl, ?_⟩
    simp only [tupV, ↓Z0, ↓Xp, ↓Xt, Xq, Xc, binP, ofCells, Nat.reduceAdd, Nat.reduceMul, Nat.reduceLT, Nat.reduceEqDiff, reduceIte]
  · have hd : n.fdiv 9223372036854775808 = -1 := by rw [Int.fdiv_eq_ediv_of_nonneg _ (by decide)]; omega
    have hw : IntKind.u64.wrap (-1) = ((18446744073709551615 : Nat) : Int) := by rfl
    have hx : ibits .xor .u64 ((18446744073709551615 : Nat) : Int) ((2 * n % 18446744073709551616).toNat : Int) = some (.i .u64 ((foldN n : Nat) : Int)) := by
      rw [ibits_xor64 _ _ (by decide) (by omega)]
      have := Lib.xor_ones64 (2 * n % 18446744073709551616).toNat (by omega)
      rw [show (18446744073709551615 : Nat) = 2 ^ 64 - 1 by decide, this]
      unfold foldN
      rw [if_neg h]
      congr 3
      omega
    simp only [putArgs, ↓Z0, ↓Xp, ↓Xt, Xq, Xc, binP, ofCells, Nat.reduceAdd, Nat.reduceMul, Nat.reduceLT, Nat.reduceEqDiff, reduceIte, Xm, Nat.reduceLeDiff, h63, h10, e63, e1, hd, hw, x64, x642, hx]
    refine ⟨nofun, _, rfl, ?_⟩
    simp only [tupV, ↓Z0, ↓Xp, ↓Xt, Xq, Xc, binP, ofCells, Nat.reduceAdd, Nat.reduceMul, Nat.reduceLT, Nat.reduceEqDiff, reduceIte]
def gFold : List PV → Option PV
  | [.i .i64 n] => if -9223372036854775808 ≤ n ∧ n ≤ 9223372036854775807 then some (.i .u64 ((foldN n : Nat) : Int)) else none
  | _ => none
def outL : PV → Option (List UInt8)
  | .nsl => some []
  | .osl 1 n cs => match bytesOf? cs with
    | some l => if n = l.length then some l else none
    | none => none
  | _ => none
def gUint : List PV → Option PV
  | [v, .i .u64 N] => match outL v with
    | some l => if 0 ≤ N ∧ N < 18446744073709551616 ∧ l.length + 10 ≤ maxBytes then some (.osl 1 (l ++ varint N.toNat).length (ofBytes (l ++ varint N.toNat))) else none
    | none => none
  | _ => none
def gInt : List PV → Option PV
  | [v, .i .i64 n] => match outL v with
    | some l => if -9223372036854775808 ≤ n ∧ n ≤ 9223372036854775807 ∧ l.length + 10 ≤ maxBytes then some (.osl 1 (l ++ varint (foldN n)).length (ofBytes (l ++ varint (foldN n)))) else none
    | none => none
  | _ => none
theorem evP_own {cfg : Cfg} {f : FuncId} (hx : cfg.ext f = none) {fuel : Nat} {args : List PV} {r : PV} (h : ∃ r' st', evFn cfg fuel f (openArgs args).1 (openArgs args).2 = some (r', st') ∧ closeRes st' r' = some r) : evP cfg fuel f args = some r := by
  obtain ⟨r', st', h1, h2⟩ := h
  unfold evP runPure
  simp only [hx]
  unfold callP
  rw [h1]
  exact h2
theorem open_out {v : PV} {l : List UInt8} {rest : List PV} (h : outL v = some l) : ∃ v', openArgs (v :: rest) = (v' :: rest, (openArgs (v :: rest)).2) ∧ OutOK (openArgs (v :: rest)).2 v' l ∧ (openArgs (v :: rest)).2.cnt = 1 := by
  unfold outL at h
  split at h
  · simp only [Option.some.injEq] at h
    subst h
    exact ⟨.nsl, rfl, .inl ⟨rfl, rfl⟩, rfl⟩
  · rename_i n cs
    split at h
    · rename_i l' hl
      split at h
      · rename_i hn
        simp only [Option.some.injEq] at h
        subst h
        have := of_bytesOf hl
        subst this
        subst hn
        refine ⟨.rsl 0 1 0 l'.length, rfl, .inr ⟨0, rfl, ?_, by show 0 < 1; omega⟩, rfl⟩
        exact St.get_putk _ _ _
      · simp at h
    · simp at h
  · simp at h
theorem call_out {g : List PV → Option PV} {st : St} {key : Nat} {v : PV} {l l' : List UInt8} {rest : List PV} (ho : OutOK st v l) (hr : rest.all PV.flat = true) (hg : ∀ v', outL v' = some l → g (v' :: rest) = some (.osl 1 l'.length (ofBytes l'))) :
    ∃ st', callStep g true st key (v :: rest) = some (.rsl key 1 0 l'.length, st') ∧ st'.get key = some (.cells (ofBytes l') false) ∧ st'.cnt = st.cnt ∧ ∀ j, j ≠ key → (∀ a b c, v ≠ .rsl j a b c) → st'.get j = st.get j := by
  rcases ho with ⟨rfl, rfl⟩ | ⟨k, rfl, hk, _⟩
  · exact ⟨_, call_nil hr (hg .nsl rfl), St.get_putk _ _ _, rfl, fun j hj _ => St.get_put_ne (fun e => hj e.symm)⟩
  · refine ⟨_, call_own hk hr (hg _ ?_), St.get_putk _ _ _, rfl, fun j hj hv => ?_⟩
    · unfold outL
      simp only [bytesOf_of, if_true]
    · rw [St.get_put_ne (fun e => hj e.symm), St.get_put_ne (fun e => hv 1 0 l.length (by rw [e]))]
def extE1 : FuncId → Option (List PV → Option PV) := fun f => if f = 70 then some gFold else if f = 34 then some gUint else none
theorem int_ev {cfg : Cfg} (hf : cfg.fn 42 = some m42) (hx1 : cfg.ext 70 = some gFold) (hx2 : cfg.ext 34 = some gUint) {fuel : Nat} {st : St} {v : PV} {l : List UInt8} (hv : OutOK st v l) {n : Int} (hn : in64 n) (hl : l.length + 10 ≤ maxBytes) :
    ∃ r st', evFn cfg (fuel + 1) 42 [v, .i .i64 n] st = some (r, st') ∧ ∃ q, r = .rsl q 1 0 (l ++ varint (foldN n)).length ∧ st'.get q = some (.cells (ofBytes (l ++ varint (foldN n))) false) := by
  refine evFn_W hf ?_
  unfold m42
  have hfl := foldN_lt hn
  have c1 : ∀ (st : St) (key : Nat), callStep (runPure cfg (evFn cfg fuel) 70) false st key [.i .i64 n] = some (.i .u64 ((foldN n : Nat) : Int), st) := by
    intro st key
    refine callStep_flat rfl ?_ rfl
    rw [runPure_ext hx1]
    unfold gFold
    unfold in64 at hn
    simp only []
    rw [if_pos (by omega)]
  obtain ⟨st', h1, h2, _, _⟩ := call_out (g := runPure cfg (evFn cfg fuel) 34) (st := ⟨st.sto, st.cnt + 48⟩) (key := st.cnt + 32) (rest := [.i .u64 ((foldN n : Nat) : Int)]) (l' := l ++ varint (foldN n)) (hv.mono (fun _ _ => rfl) (by show st.cnt ≤ st.cnt + 48; omega)) rfl (by
    intro v' hv'
    rw [runPure_ext hx2]
    unfold gUint
    simp only [hv', Int.toNat_natCast]
    rw [if_pos ⟨by omega, by omega, hl⟩])
  simp only [putArgs, ↓Z0, ↓Xp, ↓Xt, Xq, Xc, binP, ofCells, Nat.reduceAdd, Nat.reduceMul, Nat.reduceLT, Nat.reduceEqDiff, reduceIte, Xm, Nat.reduceLeDiff, c1, h1]
  refine ⟨nofun, _, rfl, st.cnt + 32, ?_, h2⟩
  simp only [tupV, ↓Z0, ↓Xp, ↓Xt, Xq, Xc, binP, ofCells, Nat.reduceAdd, Nat.reduceMul, Nat.reduceLT, Nat.reduceEqDiff, reduceIte]
end Go.Pe
