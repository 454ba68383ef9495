/-
  Events: calls by value: an event laid out, bytes held against one another, an event moved. No condition.
-/
import Derived.Test.YtadblicfhhllgaaEvtQ
set_option linter.unusedVariables false
set_option linter.unusedSimpArgs false
namespace Go.Pe
open Go Go.Am Go.RowKit

theorem ev_flat {cfg : Cfg} {f : FuncId} (hx : cfg.ext f = none) {fuel : Nat} {args : List PV} {r : PV} (ho : openArgs args = (args, { sto := .leaf, cnt := 1 })) (hc : ∀ st, closeRes st r = some r) (h : ∃ r' st', evFn cfg fuel f args { sto := .leaf, cnt := 1 } = some (r', st') ∧ r' = r) : evP cfg fuel f args = some r := by
  obtain ⟨r', st', h1, h2⟩ := h
  exact evP_of hx ho ⟨r', st', h1, by rw [h2]; exact hc st'⟩
noncomputable def cfgE0 : Cfg := { fn := fun f => lookT f tblL, ext := fun _ => none }
noncomputable def cfgE1 : Cfg := { fn := fun f => lookT f tblL, ext := extE1 }
def extE2 : FuncId → Option (List PV → Option PV) := fun f => if f = 27 then some gInt else none
noncomputable def cfgE2 : Cfg := { fn := fun f => lookT f tblL, ext := extE2 }
theorem fold_any (args : List PV) (r : PV) (h : gFold args = some r) : ∃ fuel, evP cfgE0 fuel 42 args = some r := by
  unfold gFold at h
  split at h
  · split at h
    · rename_i n hn
      simp only [Option.some.injEq] at h
      subst h
      exact ⟨0 + 1, ev_flat rfl rfl (fun _ => rfl) (fold_ev (cfg := cfgE0) (by kernel_rfl) (by unfold in64; omega))⟩
    · simp at h
  · simp at h
theorem uint_any (args : List PV) (r : PV) (h : gUint args = some r) : ∃ fuel, evP cfgE0 fuel 32 args = some r := by
  unfold gUint at h
  split at h
  · rename_i v N
    split at h
    · rename_i l hl
      split at h
      · rename_i hc
        simp only [Option.some.injEq] at h
        subst h
        obtain ⟨v', e1, e2, e3⟩ := open_out (rest := [.i .u64 N]) hl
        refine ⟨12 + 1, evP_own rfl ?_⟩
        rw [e1]
        obtain ⟨r, st', h1, q, h2, h3⟩ := uint_ev (cfg := cfgE0) (by kernel_rfl) (fuel := 12) (by omega) e2 (N := N.toNat) (by omega) hc.2.2
        rw [show ((N.toNat : Nat) : Int) = N by omega] at h1
        exact ⟨r, st', h1, by rw [h2]; exact close_bytes h3⟩
      · simp at h
    · simp at h
  · simp at h
theorem int_any (args : List PV) (r : PV) (h : gInt args = some r) : ∃ fuel, evP cfgE1 fuel 27 args = some r := by
  unfold gInt at h
  split at h
  · rename_i v n
    split at h
    · rename_i l hl
      split at h
      · rename_i hc
        simp only [Option.some.injEq] at h
        subst h
        obtain ⟨v', e1, e2, e3⟩ := open_out (rest := [.i .i64 n]) hl
        refine ⟨0 + 1, evP_own rfl ?_⟩
        rw [e1]
        obtain ⟨r, st', h1, q, h2, h3⟩ := int_ev (cfg := cfgE1) (by kernel_rfl) rfl rfl (fuel := 0) e2 (n := n) (by unfold in64; omega) hc.2.2
        exact ⟨r, st', h1, by rw [h2]; exact close_bytes h3⟩
      · simp at h
    · simp at h
  · simp at h
def gPut : List PV → Option PV
  | [v, .agg [.i .i64 a0, .i .u8 a1, .i .i64 a2, .i .i64 a3, .i .i64 a4], .agg [.i .i64 b0, .i .u8 b1, .i .i64 b2, .i .i64 b3, .i .i64 b4]] => match outL v with
    | some l => if 0 ≤ b1 ∧ b1 < 256 ∧ l.length + 60 ≤ maxBytes then some (.osl 1 (putL l b1.toNat.toUInt8 a0 a2 a3 a4 b0 b2 b3 b4).length (ofBytes (putL l b1.toNat.toUInt8 a0 a2 a3 a4 b0 b2 b3 b4))) else none
    | none => none
  | _ => none
theorem put_any (args : List PV) (r : PV) (h : gPut args = some r) : ∃ fuel, evP cfgE2 fuel 10 args = some r := by
  unfold gPut at h
  split at h
  · rename_i v a0 a1 a2 a3 a4 b0 b1 b2 b3 b4
    split at h
    · rename_i l hl
      split at h
      · rename_i hc
        simp only [Option.some.injEq] at h
        subst h
        obtain ⟨v', e1, e2, e3⟩ := open_out (rest := [.agg [.i .i64 a0, .i .u8 a1, .i .i64 a2, .i .i64 a3, .i .i64 a4], .agg [.i .i64 b0, .i .u8 b1, .i .i64 b2, .i .i64 b3, .i .i64 b4]]) hl
        refine ⟨0 + 1 + 1, evP_own rfl ?_⟩
        rw [e1]
        obtain ⟨r, st', h1, q, h2, h3⟩ := put_ev (cfg := cfgE2) (by kernel_rfl) (by kernel_rfl) rfl rfl (fuel := 0) e2 hc.2.2 (a0 := a0) (a1 := a1) (a2 := a2) (a3 := a3) (a4 := a4) (b0 := b0) (b2 := b2) (b3 := b3) (b4 := b4) (op := b1.toNat.toUInt8)
        rw [show (((b1.toNat.toUInt8).toNat : Nat) : Int) = b1 by rw [Nat.toUInt8, UInt8.toNat_ofNat']; omega] at h1
        exact ⟨r, st', h1, by rw [h2]; exact close_bytes h3⟩
      · simp at h
    · simp at h
  · simp at h
/-- bytes that are read -/
def inL : PV → Option (List UInt8)
  | .nsl => some []
  | .fsl n cs => match bytesOf? cs with
    | some l => if n = l.length then some l else none
    | none => none
  | _ => none
theorem cells_in {st : St} {v : PV} {l : List UInt8} (h : inL v = some l) : cellsOf st 1 v = some (l.length, ofBytes l) := by
  unfold inL at h
  split at h
  · simp only [Option.some.injEq] at h
    subst h; rfl
  · split at h
    · rename_i n cs l' hl
      split at h
      · rename_i hn
        simp only [Option.some.injEq] at h
        subst h
        have := of_bytesOf hl
        subst this
        subst hn
        unfold cellsOf
        simp only [len_ofBytes, Nat.mul_one, if_true]
      · simp at h
    · simp at h
  · simp at h
theorem in_fsl (l : List UInt8) : inL (.fsl l.length (ofBytes l)) = some l := by
  unfold inL
  simp only [bytesOf_of, if_true]
theorem open_in {v : PV} {l : List UInt8} {rest : List PV} (h : inL v = some l) : openArgs (v :: rest) = (v :: rest, { sto := .leaf, cnt := 1 }) := by
  cases v <;> first | rfl | simp [inL] at h
def gSame : List PV → Option PV
  | [v, w] => match inL v, inL w with
    | some a, some b => some (.b (a == b))
    | _, _ => none
  | _ => none
theorem same_any (args : List PV) (r : PV) (h : gSame args = some r) : ∃ fuel, evP cfgE0 fuel 12 args = some r := by
  unfold gSame at h
  split at h
  · rename_i v w
    split at h
    · rename_i a b ha hb
      simp only [Option.some.injEq] at h
      subst h
      refine ⟨0 + 1, ev_flat rfl (open_in ha) (fun _ => rfl) (evFn_W (by kernel_rfl : cfgE0.fn 12 = some m12) ?_)⟩
      unfold m12
      have h1 := fun st => cells_in (st := st) ha
      have h2 := fun st => cells_in (st := st) hb
      simp only [putArgs, ↓Z0, ↓Xp, Xq, Xc, binP, ofCells, Nat.reduceAdd, Nat.reduceMul, Nat.reduceLT, Nat.reduceEqDiff, reduceIte, Xm, Nat.reduceLeDiff, h1, h2, bytesOf_of]
      refine ⟨nofun, _, rfl, ?_⟩
      simp only [tupV, ↓Z0, ↓Xp, Xq, Xc, binP, ofCells, Nat.reduceAdd, Nat.reduceMul, Nat.reduceLT, Nat.reduceEqDiff, reduceIte]
    · simp at h
  · simp at h
def gUp : List PV → Option PV
  | [.agg [.i .i64 a0, .i .u8 a1, .i .i64 a2, .i .i64 a3, .i .i64 a4], .agg [.i .i64 y0, .i .i64 y1, .i .i64 y2, .i .i64 y3]] => some (.agg [.i .i64 (IntKind.i64.wrap (a0 + y0)), .i .u8 a1, .i .i64 (IntKind.i64.wrap (a2 + y1)), .i .i64 (IntKind.i64.wrap (a3 + y2)), .i .i64 (IntKind.i64.wrap (a4 + y3))])
  | _ => none
set_option maxHeartbeats 4000000 in
theorem up_any (args : List PV) (r : PV) (h : gUp args = some r) : ∃ fuel, evP cfgE0 fuel 25 args = some r := by
  unfold gUp at h
  split at h
  · rename_i a0 a1 a2 a3 a4 y0 y1 y2 y3
    simp only [Option.some.injEq] at h
    subst h
    refine ⟨0 + 1, evP_of rfl rfl (evFn_W (by kernel_rfl : cfgE0.fn 25 = some m25) ?_)⟩
    unfold m25
    have q4 : ∀ n : Nat, n < 4 → (0 ≤ (Int.ofNat n) ∧ (Int.ofNat n) < ((4 : Nat) : Int)) := fun n hn => ⟨by show (0 : Int) ≤ n; omega, by show (n : Int) < 4; omega⟩
    have q0 := q4 0 (by omega)
    have q1 := q4 1 (by omega)
    have q2 := q4 2 (by omega)
    have q3 := q4 3 (by omega)
    have t0 : (Int.ofNat 0).toNat = 0 := rfl
    have t1 : (Int.ofNat 1).toNat = 1 := rfl
    have t2 : (Int.ofNat 2).toNat = 2 := rfl
    have t3 : (Int.ofNat 3).toNat = 3 := rfl
    simp only [putArgs, ↓Z0, ↓Xp, Xq, Xc, binP, ofCells, Nat.reduceAdd, Nat.reduceMul, Nat.reduceLT, Nat.reduceEqDiff, reduceIte, Xm, Nat.reduceLeDiff, q0, q1, q2, q3, t0, t1, t2, t3]
    refine ⟨nofun, [.agg [.i .i64 (IntKind.i64.wrap (a0 + y0)), .i .u8 a1, .i .i64 (IntKind.i64.wrap (a2 + y1)), .i .i64 (IntKind.i64.wrap (a3 + y2)), .i .i64 (IntKind.i64.wrap (a4 + y3))]], ?_, rfl⟩
    simp only [mapO, resP, ↓Z0, ↓Xp, Xq, Xc, binP, ofCells, Nat.reduceAdd, Nat.reduceMul, Nat.reduceLT, Nat.reduceEqDiff, reduceIte, Xm, Nat.reduceLeDiff]
  · simp at h
end Go.Pe
