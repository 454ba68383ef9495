/-
  CheckKinds: the law, by the interpreter of plain data. No condition.
-/
import Derived.Test.YtjnofhibldppoaaChkB1
import Derived.Test.YtjnofhibldppoaaChkB2
import Derived.Test.YtjnofhibldppoaaChkB3
set_option linter.unusedVariables false
set_option linter.unusedSimpArgs false
namespace Go.Pe
open Go Go.Am Go.RowKit

theorem kinds_at {o k : Nat} (op kind line : Int) (ho : o < 23) (hk : k < 9) : runPre cfgC4 300 301 kindsA kindsL 3 (kindsX op kind line (o + 1) (k + 1)) kindsF = some (wantC (o + 1) (k + 1) line, wantC (o + 1) (k + 1) line) := by
  have key : ∀ {α : Type} {f g : Nat → α}, (List.range 9).map f = (List.range 9).map g → f k = g k := fun h => List.map_inj_left.1 h k (List.mem_range.2 hk)
  match o, ho with
  | 0, _ => exact key (kinds_1 op kind line)
  | 1, _ => exact key (kinds_2 op kind line)
  | 2, _ => exact key (kinds_3 op kind line)
  | 3, _ => exact key (kinds_4 op kind line)
  | 4, _ => exact key (kinds_5 op kind line)
  | 5, _ => exact key (kinds_6 op kind line)
  | 6, _ => exact key (kinds_7 op kind line)
  | 7, _ => exact key (kinds_8 op kind line)
  | 8, _ => exact key (kinds_9 op kind line)
  | 9, _ => exact key (kinds_10 op kind line)
  | 10, _ => exact key (kinds_11 op kind line)
  | 11, _ => exact key (kinds_12 op kind line)
  | 12, _ => exact key (kinds_13 op kind line)
  | 13, _ => exact key (kinds_14 op kind line)
  | 14, _ => exact key (kinds_15 op kind line)
  | 15, _ => exact key (kinds_16 op kind line)
  | 16, _ => exact key (kinds_17 op kind line)
  | 17, _ => exact key (kinds_18 op kind line)
  | 18, _ => exact key (kinds_19 op kind line)
  | 19, _ => exact key (kinds_20 op kind line)
  | 20, _ => exact key (kinds_21 op kind line)
  | 21, _ => exact key (kinds_22 op kind line)
  | 22, _ => exact key (kinds_23 op kind line)
  | n + 23, h => exact absurd h (by omega)
set_option maxHeartbeats 4000000 in
set_option maxRecDepth 100000 in
theorem kinds_ev {op kind line : Int} (h1 : 0 ≤ op ∧ op < 256) (h2 : 0 ≤ kind ∧ kind < 256) : ∃ fuel, evP cfgC4 fuel 4 [.i .u8 op, .i .u8 kind, .i .u8 line] = some (.b true) := by
  refine ⟨300 + 1, ev_flat rfl rfl (fun _ => rfl) (evFn_W (by kernel_rfl : cfgC4.fn 4 = some m4) ?_)⟩
  obtain ⟨p, rfl⟩ : ∃ p : Nat, op = p := ⟨op.toNat, by omega⟩
  obtain ⟨q, rfl⟩ : ∃ q : Nat, kind = q := ⟨kind.toNat, by omega⟩
  have aw : runPure cfgC4 (evFn cfgC4 300) 10 [] = some (.b true) := by
    rw [runPure_ext (by kernel_rfl : cfgC4.ext 10 = some gAwakeC)]; rfl
  have h := kinds_at (o := p % 23) (k := q % 9) (p : Int) (q : Int) line (by omega) (by omega)
  have h23 : (((23 : Nat) : Int) = 0) = False := by simp
  have h09 : (((9 : Nat) : Int) = 0) = False := by simp
  unfold m4
  simp only [putArgs]
  (try rw [Z0])
  (try simp (maxSteps := 2000000) (disch := first | omega | rfl | assumption) only [↓Xp, ↓Xt, Xq, Xc, binP, ofCells, Nat.reduceAdd, Nat.reduceMul, Nat.reduceLT, Nat.reduceEqDiff, reduceIte, Xa, Xn, unP, len_f, len_n, len_r, Xm, Nat.reduceLeDiff, List.nil_append, List.cons_append, h23, h09])
  (try rw [Z0])
  (try simp (maxSteps := 2000000) (disch := first | omega | rfl | assumption) only [↓Xp, ↓Xt, Xq, Xc, binP, ofCells, Nat.reduceAdd, Nat.reduceMul, Nat.reduceLT, Nat.reduceEqDiff, reduceIte, Xa, Xn, unP, len_f, len_n, len_r, Xm, Nat.reduceLeDiff, List.nil_append, List.cons_append, h23, h09])
  rw [assocB, assocB]
  refine WC_runPre 3 kindsF _ h ?_
  rintro ⟨env, loc, st⟩ key hc
  obtain ⟨a, b, hw⟩ : ∃ a b : Int, wantC (p % 23 + 1) (q % 9 + 1) line = .agg [.i .i64 a, .i .i64 b] := by
    unfold wantC
    split <;> exact ⟨_, _, rfl⟩
  rw [hw] at hc
  have e1 : Env.get loc 36 = .agg [.i .i64 a, .i .i64 b] := congrArg Prod.fst hc
  have e2 : Env.get loc 37 = .agg [.i .i64 a, .i .i64 b] := congrArg Prod.snd hc
  have hee : ∀ x : Int, (x == x) = true := fun x => beq_self_eq_true x
  have d0 : ∀ st : St, deepL st [] = some [] := fun _ => rfl
  have cb : PV.closedB (.b true) = true := rfl
  have rb : ∀ (st : St) (key : Nat), recvRes st key (.b true) = some (.b true, st) := fun _ _ => rfl
  simp only [List.drop_succ_cons, List.drop_zero]
  simp (disch := first | omega | rfl | assumption) only [↓Xp, ↓Xt, Xq, Xc, binP, ofCells, Nat.reduceAdd, Nat.reduceMul, Nat.reduceLT, Nat.reduceEqDiff, reduceIte, Xa, Xn, unP, len_f, len_n, len_r, Xm, Nat.reduceLeDiff, e1, e2, hee, aw, d0, cb, rb]
  refine ⟨nofun, _, rfl, ?_⟩
  simp only [tupV, ↓Z0, ↓Xp, ↓Xt, Xq, Xc, binP, ofCells, Nat.reduceAdd, Nat.reduceMul, Nat.reduceLT, Nat.reduceEqDiff, reduceIte]
theorem kinds_law (op : Int) (h1 : (Lit.int .u8 op).wf = true) (kind : Int) (h2 : (Lit.int .u8 kind).wf = true) (line : Int) (_ : (Lit.int .u8 line).wf = true) : ∃ fuel, evP cfgC4 fuel 4 [.i .u8 op, .i .u8 kind, .i .u8 line] = some (.b true) := by
  refine kinds_ev ?_ ?_
  · simp [Lit.wf, IntKind.min, IntKind.max, IntKind.signed, IntKind.bits] at h1
    omega
  · simp [Lit.wf, IntKind.min, IntKind.max, IntKind.signed, IntKind.bits] at h2
    omega
end Go.Pe
