/-
  Events: calls by value: an event laid out, an event moved. No condition.
-/
import Derived.Test.YtogdkhejfkbnmaaEvtQ
import Derived.Test.YtogdkhejfkbnmaaEvtS
set_option linter.unusedVariables false
set_option linter.unusedSimpArgs false
namespace Go.Pe
open Go Go.Am Go.RowKit

def gPut : List PV → Option PV
  | [v, .agg [.i .i64 a0, .i .u8 a1, .i .i64 a2, .i .i64 a3, .i .i64 a4], .agg [.i .i64 b0, .i .u8 b1, .i .i64 b2, .i .i64 b3, .i .i64 b4]] => match outL v with
    | some l => if 0 ≤ b1 ∧ b1 < 256 ∧ l.length + 60 ≤ maxBytes then some (.osl 1 (putL l b1.toNat.toUInt8 a0 a2 a3 a4 b0 b2 b3 b4).length (ofBytes (putL l b1.toNat.toUInt8 a0 a2 a3 a4 b0 b2 b3 b4))) else none
    | none => none
  | _ => none
theorem put_any (args : List PV) (r : PV) (h : gPut args = some r) : ∃ fuel, evP cfgE2 fuel 56 args = some r := by
  unfold gPut at h
  split at h
  · rename_i v a0 a1 a2 a3 a4 b0 b1 b2 b3 b4
    split at h
    · rename_i l hl
      split at h
      · rename_i hc
        simp only [Option.some.injEq] at h
        subst h
        obtain ⟨v', e1, e2, e3⟩ := open_out (rest := [.agg [.i .i64 a0, .i .u8 a1, .i .i64 a2, .i .i64 a3, .i .i64 a4], .agg [.i .i64 b0, .i .u8 b1, .i .i64 b2, .i .i64 b3, .i .i64 b4]]) hl
        refine ⟨0 + 1 + 1, evP_own rfl ?_⟩
        rw [e1]
        obtain ⟨r, st', h1, q, h2, h3⟩ := put_ev (cfg := cfgE2) (by kernel_rfl) (by kernel_rfl) rfl rfl (fuel := 0) e2 hc.2.2 (a0 := a0) (a1 := a1) (a2 := a2) (a3 := a3) (a4 := a4) (b0 := b0) (b2 := b2) (b3 := b3) (b4 := b4) (op := b1.toNat.toUInt8)
        rw [show (((b1.toNat.toUInt8).toNat : Nat) : Int) = b1 by rw [Nat.toUInt8, UInt8.toNat_ofNat']; omega] at h1
        exact ⟨r, st', h1, by rw [h2]; exact close_bytes h3⟩
      · simp at h
    · simp at h
  · simp at h

theorem cfgE0_ok {Gl : Gmap} : CfgOK Go.Proofs.Try.prog Gl cfgE0 := cfg_okt tbl_all fun f g h => by simp at h
theorem cfgE1_ok {Gl : Gmap} : CfgOK Go.Proofs.Try.prog Gl cfgE1 := by
  refine cfg_okt tbl_all ?_
  intro f g h
  unfold extE1 at h
  split at h
  · rename_i e; simp only [Option.some.injEq] at h; subst h; subst e
    exact pure_of cfgE0_ok fold_any
  split at h
  · rename_i e; simp only [Option.some.injEq] at h; subst h; subst e
    exact pure_of cfgE0_ok uint_any
  · simp at h
theorem cfgE2_ok {Gl : Gmap} : CfgOK Go.Proofs.Try.prog Gl cfgE2 := by
  refine cfg_okt tbl_all ?_
  intro f g h
  unfold extE2 at h
  split at h
  · rename_i e; simp only [Option.some.injEq] at h; subst h; subst e
    exact pure_of cfgE1_ok int_any
  · simp at h
def gSame : List PV → Option PV
  | [v, w] => match inL v, inL w with
    | some a, some b => some (.b (a == b))
    | _, _ => none
  | _ => none
theorem same_any (args : List PV) (r : PV) (h : gSame args = some r) : ∃ fuel, evP cfgE0 fuel 28 args = some r := by
  unfold gSame at h
  split at h
  · rename_i v w
    split at h
    · rename_i a b ha hb
      simp only [Option.some.injEq] at h
      subst h
      refine ⟨0 + 1, ev_flat rfl (open_in ha) (fun _ => rfl) (evFn_W (by kernel_rfl : cfgE0.fn 28 = some m28) ?_)⟩
      unfold m28
      have h1 := fun st => cells_in (st := st) ha
      have h2 := fun st => cells_in (st := st) hb
      simp only [putArgs, ↓Z0, ↓Xp, ↓Xt, Xq, Xc, binP, ofCells, Nat.reduceAdd, Nat.reduceMul, Nat.reduceLT, Nat.reduceEqDiff, reduceIte, Xm, Nat.reduceLeDiff, h1, h2, bytesOf_of]
      refine ⟨nofun, _, rfl, ?_⟩
      simp only [tupV, ↓Z0, ↓Xp, ↓Xt, Xq, Xc, binP, ofCells, Nat.reduceAdd, Nat.reduceMul, Nat.reduceLT, Nat.reduceEqDiff, reduceIte]
    · simp at h
  · simp at h
end Go.Pe
