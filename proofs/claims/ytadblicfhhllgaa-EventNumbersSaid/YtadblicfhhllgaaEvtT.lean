/-
  Events: the chapter's examples; the laws of two events beside one. No condition.
-/
import Derived.Test.YtadblicfhhllgaaEvtS2
import Derived.Test.YtadblicfhhllgaaEvtG
import Derived.Test.YtadblicfhhllgaaEvtA0
set_option linter.unusedVariables false
set_option linter.unusedSimpArgs false
namespace Go.Pe
open Go Go.Am Go.RowKit

def gUp : List PV → Option PV
  | [.agg [.i .i64 a0, .i .u8 a1, .i .i64 a2, .i .i64 a3, .i .i64 a4], .agg [.i .i64 y0, .i .i64 y1, .i .i64 y2, .i .i64 y3]] => some (.agg [.i .i64 (IntKind.i64.wrap (a0 + y0)), .i .u8 a1, .i .i64 (IntKind.i64.wrap (a2 + y1)), .i .i64 (IntKind.i64.wrap (a3 + y2)), .i .i64 (IntKind.i64.wrap (a4 + y3))])
  | _ => none
set_option maxHeartbeats 4000000 in
theorem up_any (args : List PV) (r : PV) (h : gUp args = some r) : ∃ fuel, evP cfgE0 fuel 25 args = some r := by
  unfold gUp at h
  split at h
  · rename_i a0 a1 a2 a3 a4 y0 y1 y2 y3
    simp only [Option.some.injEq] at h
    subst h
    refine ⟨0 + 1, evP_of rfl rfl (evFn_W (by kernel_rfl : cfgE0.fn 25 = some m25) ?_)⟩
    unfold m25
    have q4 : ∀ n : Nat, n < 4 → (0 ≤ (Int.ofNat n) ∧ (Int.ofNat n) < ((4 : Nat) : Int)) := fun n hn => ⟨by show (0 : Int) ≤ n; omega, by show (n : Int) < 4; omega⟩
    have q0 := q4 0 (by omega)
    have q1 := q4 1 (by omega)
    have q2 := q4 2 (by omega)
    have q3 := q4 3 (by omega)
    have t0 : (Int.ofNat 0).toNat = 0 := rfl
    have t1 : (Int.ofNat 1).toNat = 1 := rfl
    have t2 : (Int.ofNat 2).toNat = 2 := rfl
    have t3 : (Int.ofNat 3).toNat = 3 := rfl
    simp only [putArgs, ↓Z0, ↓Xp, ↓Xt, Xq, Xc, binP, ofCells, Nat.reduceAdd, Nat.reduceMul, Nat.reduceLT, Nat.reduceEqDiff, reduceIte, Xm, Nat.reduceLeDiff, q0, q1, q2, q3, t0, t1, t2, t3]
    refine ⟨nofun, [.agg [.i .i64 (IntKind.i64.wrap (a0 + y0)), .i .u8 a1, .i .i64 (IntKind.i64.wrap (a2 + y1)), .i .i64 (IntKind.i64.wrap (a3 + y2)), .i .i64 (IntKind.i64.wrap (a4 + y3))]], ?_, rfl⟩
    simp only [mapO, resP, ↓Z0, ↓Xp, ↓Xt, Xq, Xc, binP, ofCells, Nat.reduceAdd, Nat.reduceMul, Nat.reduceLT, Nat.reduceEqDiff, reduceIte, Xm, Nat.reduceLeDiff]
  · simp at h

def extE3 : FuncId → Option (List PV → Option PV) := fun f => if f = 10 then some gPut else if f = 12 then some gSame else if f = 54 then some gGrow else none
noncomputable def cfgE3 : Cfg := { fn := fun f => lookT f tblL, ext := extE3 }
set_option maxRecDepth 100000 in
theorem eawake_run : fvP cfgE3 60 17 [] = some (.b true) := by kernel_rfl
def gAwake : List PV → Option PV
  | [] => some (.b true)
  | _ => none
theorem eawake_any (args : List PV) (r : PV) (h : gAwake args = some r) : ∃ fuel, evP cfgE3 fuel 17 args = some r := by
  unfold gAwake at h
  split at h
  · rw [← h]
    refine ⟨60, ?_⟩
    have := eawake_run
    rwa [fvP_eq] at this
  · simp at h
def extE4 : FuncId → Option (List PV → Option PV) := fun f => if f = 10 then some gPut else if f = 12 then some gSame else if f = 25 then some gUp else if f = 17 then some gAwake else none
noncomputable def cfgE4 : Cfg := { fn := fun f => lookT f tblL, ext := extE4 }
theorem hxE4_pu : cfgE4.ext 10 = some gPut := by kernel_rfl
theorem hxE4_sa : cfgE4.ext 12 = some gSame := by kernel_rfl
theorem hxE4_up : cfgE4.ext 25 = some gUp := by kernel_rfl
theorem hxE4_aw : cfgE4.ext 17 = some gAwake := by kernel_rfl
theorem deep_two {st : St} {k1 k2 : Nat} {a b : List UInt8} (h1 : st.get k1 = some (.cells (ofBytes a) false)) (h2 : st.get k2 = some (.cells (ofBytes b) false)) : deepL st [.rsl k1 1 0 a.length, .rsl k2 1 0 b.length] = some [.fsl a.length (ofBytes a), .fsl b.length (ofBytes b)] := by
  unfold deepL
  simp only [mapO, deep_bytes0 h1, deep_bytes0 h2]
theorem put_nil {a0 a1 a2 a3 a4 b0 b2 b3 b4 b1 : Int} (h0 : 0 ≤ b1) (h1 : b1 < 256) : gPut [.nsl, .agg [.i .i64 a0, .i .u8 a1, .i .i64 a2, .i .i64 a3, .i .i64 a4], .agg [.i .i64 b0, .i .u8 b1, .i .i64 b2, .i .i64 b3, .i .i64 b4]] = some (.osl 1 (putL [] b1.toNat.toUInt8 a0 a2 a3 a4 b0 b2 b3 b4).length (ofBytes (putL [] b1.toNat.toUInt8 a0 a2 a3 a4 b0 b2 b3 b4))) := by
  unfold gPut outL
  simp only []
  rw [if_pos ⟨h0, h1, by decide⟩]
theorem wrap_shift (a b y : Int) : IntKind.i64.wrap (IntKind.i64.wrap (b + y) - IntKind.i64.wrap (a + y)) = IntKind.i64.wrap (b - a) := by
  simp only [IntKind.wrap_i64]
  omega
set_option maxHeartbeats 8000000 in
set_option maxRecDepth 100000 in
theorem shift_ev (a0 a1 a2 a3 a4 b0 b1 b2 b3 b4 y0 y1 y2 y3 : Int) (h0 : 0 ≤ b1) (h1 : b1 < 256) : ∃ fuel, evP cfgE4 fuel 6 [.agg [.i .i64 a0, .i .u8 a1, .i .i64 a2, .i .i64 a3, .i .i64 a4], .agg [.i .i64 b0, .i .u8 b1, .i .i64 b2, .i .i64 b3, .i .i64 b4], .agg [.i .i64 y0, .i .i64 y1, .i .i64 y2, .i .i64 y3]] = some (.b true) := by
  refine ⟨0 + 1, ev_flat rfl rfl (fun _ => rfl) (evFn_W (by kernel_rfl : cfgE4.fn 6 = some m6) ?_)⟩
  unfold m6
  have hs : putL [] b1.toNat.toUInt8 (IntKind.i64.wrap (a0 + y0)) (IntKind.i64.wrap (a2 + y1)) (IntKind.i64.wrap (a3 + y2)) (IntKind.i64.wrap (a4 + y3)) (IntKind.i64.wrap (b0 + y0)) (IntKind.i64.wrap (b2 + y1)) (IntKind.i64.wrap (b3 + y2)) (IntKind.i64.wrap (b4 + y3)) = putL [] b1.toNat.toUInt8 a0 a2 a3 a4 b0 b2 b3 b4 := by
    unfold putL dInt
    simp only [wrap_shift]
  have p1 := put_nil (a0 := a0) (a1 := a1) (a2 := a2) (a3 := a3) (a4 := a4) (b0 := b0) (b2 := b2) (b3 := b3) (b4 := b4) h0 h1
  have p2 := put_nil (a0 := IntKind.i64.wrap (a0 + y0)) (a1 := a1) (a2 := IntKind.i64.wrap (a2 + y1)) (a3 := IntKind.i64.wrap (a3 + y2)) (a4 := IntKind.i64.wrap (a4 + y3)) (b0 := IntKind.i64.wrap (b0 + y0)) (b2 := IntKind.i64.wrap (b2 + y1)) (b3 := IntKind.i64.wrap (b3 + y2)) (b4 := IntKind.i64.wrap (b4 + y3)) h0 h1
  rw [hs] at p2
  rw [← runPure_ext (callE := evFn cfgE4 0) hxE4_pu] at p1 p2
  have u1 : runPure cfgE4 (evFn cfgE4 0) 25 [.agg [.i .i64 a0, .i .u8 a1, .i .i64 a2, .i .i64 a3, .i .i64 a4], .agg [.i .i64 y0, .i .i64 y1, .i .i64 y2, .i .i64 y3]] = some (.agg [.i .i64 (IntKind.i64.wrap (a0 + y0)), .i .u8 a1, .i .i64 (IntKind.i64.wrap (a2 + y1)), .i .i64 (IntKind.i64.wrap (a3 + y2)), .i .i64 (IntKind.i64.wrap (a4 + y3))]) := by rw [runPure_ext hxE4_up]; rfl
  have u2 : runPure cfgE4 (evFn cfgE4 0) 25 [.agg [.i .i64 b0, .i .u8 b1, .i .i64 b2, .i .i64 b3, .i .i64 b4], .agg [.i .i64 y0, .i .i64 y1, .i .i64 y2, .i .i64 y3]] = some (.agg [.i .i64 (IntKind.i64.wrap (b0 + y0)), .i .u8 b1, .i .i64 (IntKind.i64.wrap (b2 + y1)), .i .i64 (IntKind.i64.wrap (b3 + y2)), .i .i64 (IntKind.i64.wrap (b4 + y3))]) := by rw [runPure_ext hxE4_up]; rfl
  generalize putL [] b1.toNat.toUInt8 a0 a2 a3 a4 b0 b2 b3 b4 = L at *
  have s1 : runPure cfgE4 (evFn cfgE4 0) 12 [.fsl L.length (ofBytes L), .fsl L.length (ofBytes L)] = some (.b true) := by
    rw [runPure_ext hxE4_sa]
    unfold gSame
    simp only [in_fsl, beq_self_eq_true]
  have w1 : runPure cfgE4 (evFn cfgE4 0) 17 [] = some (.b true) := by rw [runPure_ext hxE4_aw]; rfl
  have d0 : ∀ st : St, deepL st [] = some [] := fun _ => rfl
  have d1 : ∀ (st : St) (a b c d e a' b' c' d' e' : PV), True := fun _ _ _ _ _ _ _ _ _ _ _ => trivial
  have dn : ∀ (st : St) (a0 a1 a2 a3 a4 b0 b1 b2 b3 b4 : Int), deepL st [.nsl, .agg [.i .i64 a0, .i .u8 a1, .i .i64 a2, .i .i64 a3, .i .i64 a4], .agg [.i .i64 b0, .i .u8 b1, .i .i64 b2, .i .i64 b3, .i .i64 b4]] = some [.nsl, .agg [.i .i64 a0, .i .u8 a1, .i .i64 a2, .i .i64 a3, .i .i64 a4], .agg [.i .i64 b0, .i .u8 b1, .i .i64 b2, .i .i64 b3, .i .i64 b4]] := fun _ _ _ _ _ _ _ _ _ _ _ => rfl
  have du : ∀ (st : St) (a0 a1 a2 a3 a4 b0 b1 b2 b3 : Int), deepL st [.agg [.i .i64 a0, .i .u8 a1, .i .i64 a2, .i .i64 a3, .i .i64 a4], .agg [.i .i64 b0, .i .i64 b1, .i .i64 b2, .i .i64 b3]] = some [.agg [.i .i64 a0, .i .u8 a1, .i .i64 a2, .i .i64 a3, .i .i64 a4], .agg [.i .i64 b0, .i .i64 b1, .i .i64 b2, .i .i64 b3]] := fun _ _ _ _ _ _ _ _ _ _ => rfl
  have cb : PV.closedB (.b true) = true := rfl
  have ce : ∀ (a0 a1 a2 a3 a4 : Int), PV.closedB (.agg [.i .i64 a0, .i .u8 a1, .i .i64 a2, .i .i64 a3, .i .i64 a4]) = true := fun _ _ _ _ _ => rfl
  have rb : ∀ (st : St) (key : Nat), recvRes st key (.b true) = some (.b true, st) := fun _ _ => rfl
  have re : ∀ (st : St) (key : Nat) (cs : List PV), recvRes st key (.agg cs) = some (.agg cs, st) := fun _ _ _ => rfl
  have ro : ∀ (st : St) (key n : Nat) (cs : List PV), recvRes st key (.osl 1 n cs) = some (.rsl key 1 0 n, st.put key (some (.cells cs false))) := fun _ _ _ _ => rfl
  simp only [putArgs, ↓Z0, ↓Xp, ↓Xt, Xq, Xc, binP, ofCells, Nat.reduceAdd, Nat.reduceMul, Nat.reduceLT, Nat.reduceEqDiff, reduceIte, Xm, Nat.reduceLeDiff, dn, du, p1, p2, u1, u2, closed_osl, ce, cb, rb, re, ro, deep_two, s1, d0, w1]
  refine ⟨nofun, _, rfl, ?_⟩
  simp only [tupV, ↓Z0, ↓Xp, ↓Xt, Xq, Xc, binP, ofCells, Nat.reduceAdd, Nat.reduceMul, Nat.reduceLT, Nat.reduceEqDiff, reduceIte]
theorem shift_law (a0 a1 a2 a3 a4 : Int) (_ : (Lit.int .i64 a0).wf = true) (_ : (Lit.int .u8 a1).wf = true) (_ : (Lit.int .i64 a2).wf = true) (_ : (Lit.int .i64 a3).wf = true) (_ : (Lit.int .i64 a4).wf = true) (b0 b1 b2 b3 b4 : Int) (_ : (Lit.int .i64 b0).wf = true) (h : (Lit.int .u8 b1).wf = true) (_ : (Lit.int .i64 b2).wf = true) (_ : (Lit.int .i64 b3).wf = true) (_ : (Lit.int .i64 b4).wf = true) (y0 y1 y2 y3 : Int) (_ : ∀ x ∈ [y0, y1, y2, y3], (Lit.int .i64 x).wf = true) : ∃ fuel, evP cfgE4 fuel 6 [.agg [.i .i64 a0, .i .u8 a1, .i .i64 a2, .i .i64 a3, .i .i64 a4], .agg [.i .i64 b0, .i .u8 b1, .i .i64 b2, .i .i64 b3, .i .i64 b4], .agg [.i .i64 y0, .i .i64 y1, .i .i64 y2, .i .i64 y3]] = some (.b true) :=
  shift_ev a0 a1 a2 a3 a4 b0 b1 b2 b3 b4 y0 y1 y2 y3 (u8_wf h).1 (u8_wf h).2
end Go.Pe
