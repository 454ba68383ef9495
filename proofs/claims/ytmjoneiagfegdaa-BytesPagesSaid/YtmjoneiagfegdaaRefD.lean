/-
  The document's answer for layer 1: what its calls hand out; Unseal, by the interpreter of plain data. No condition.
-/
import Derived.Test.YtmjoneiagfegdaaRefC
import Derived.Test.YtmjoneiagfegdaaPe9
import Derived.Test.YtmjoneiagfegdaaEvtK0
set_option linter.unusedVariables false
set_option linter.unusedSimpArgs false
namespace Go.Pe
open Go Go.Am Go.RowKit

section
variable {cfg : Cfg} {callE : CallE}
theorem ruint_g (hx : cfg.ext 29 = some gRUint) {w : PV} {a : List UInt8} (hw : inL w = some a) {n : Nat} (hn : n < 18446744073709551616) (hl : a.length + 10 ≤ 140737488355328) : runPure cfg callE 29 [w, .i .u64 (n : Int)] = some (.osl 1 (a ++ varint n).length (ofBytes (a ++ varint n))) := by
  rw [runPure_ext hx]
  unfold gRUint
  simp only [hw, Int.toNat_natCast]
  rw [if_pos ⟨by omega, by omega, hl⟩]
theorem rint_g (hx : cfg.ext 30 = some gRInt) {w : PV} {a : List UInt8} (hw : inL w = some a) {n : Int} (hn : in64 n) (hl : a.length + 10 ≤ 140737488355328) : runPure cfg callE 30 [w, .i .i64 n] = some (.osl 1 (a ++ varint (foldN n)).length (ofBytes (a ++ varint (foldN n)))) := by
  rw [runPure_ext hx]
  unfold in64 at hn
  unfold gRInt
  simp only [hw]
  rw [if_pos ⟨hn.1, by omega, hl⟩]
theorem rvar_g (hx : cfg.ext 45 = some gRVar) {n : Nat} (hn : n < 18446744073709551616) : runPure cfg callE 45 [.i .u64 (n : Int)] = some (.osl 1 (varint n).length (ofBytes (varint n))) := by
  rw [runPure_ext hx]
  unfold gRVar
  simp only [Int.toNat_natCast]
  rw [if_pos ⟨by omega, by omega⟩]
theorem rseal_g (hx : cfg.ext 28 = some gRSeal) {w : PV} {a : List UInt8} (hw : inL w = some a) (hl : a.length + 4 ≤ 140737488355328) : runPure cfg callE 28 [w] = some (.osl 1 (sealB a).length (ofBytes (sealB a))) := by
  rw [runPure_ext hx]
  unfold gRSeal
  simp only [hw]
  rw [if_pos hl]
theorem rafter_g (hx : cfg.ext 46 = some gRAfter) {w1 w2 : PV} {a b : List UInt8} (h1 : inL w1 = some a) (h2 : inL w2 = some b) (hl : a.length + b.length ≤ 140737488355328) : runPure cfg callE 46 [w1, w2] = some (.osl 1 (a ++ b).length (ofBytes (a ++ b))) := by
  rw [runPure_ext hx]
  unfold gRAfter
  simp only [h1, h2]
  rw [if_pos hl]
theorem rgetu_k (hx : cfg.ext 23 = some gRGetU) {v : PV} {l : List UInt8} (hv : inL v = some l) (hl : l.length ≤ 140737488355327) (st : St) (key : Nat) (a : Int) : callStep (runPure cfg callE 23) false st key [v, .i .i64 a] = some (.tup [.i .u64 ((getU l a).1 : Int), .i .i64 (getU l a).2.1, .i .i64 (getU l a).2.2], st) := by
  refine callStep_flat (by simp only [List.all_cons, in_flat hv, List.all_nil, Bool.and_self, Bool.true_and]; rfl) ?_ rfl
  rw [runPure_ext hx]
  unfold gRGetU
  simp only [hv]
  rw [if_pos hl]
  rfl
theorem rgeti_k (hx : cfg.ext 24 = some gRGetI) {v : PV} {l : List UInt8} (hv : inL v = some l) (hl : l.length ≤ 140737488355327) (st : St) (key : Nat) (a : Int) : callStep (runPure cfg callE 24) false st key [v, .i .i64 a] = some (.tup [.i .i64 (getI l a).1, .i .i64 (getI l a).2.1, .i .i64 (getI l a).2.2], st) := by
  refine callStep_flat (by simp only [List.all_cons, in_flat hv, List.all_nil, Bool.and_self, Bool.true_and]; rfl) ?_ rfl
  rw [runPure_ext hx]
  unfold gRGetI
  simp only [hv]
  rw [if_pos hl]
  rfl
end
def rUnsealV (l : List UInt8) : PV := if l.length < 4 then .tup [.nsl, .i .i64 11] else if sealB (l.take (l.length - 4)) = l then .tup [.osl 1 (l.length - 4) (ofBytes (l.take (l.length - 4))), .i .i64 0] else .tup [.nsl, .i .i64 12]
def gRUnseal : List PV → Option PV
  | [v] => match inL v with
    | some l => if l.length ≤ 140737488355000 then some (rUnsealV l) else none
    | none => none
  | _ => none
theorem runseal_ev {cfg : Cfg} (hf : cfg.fn 26 = some m26) (hx1 : cfg.ext 46 = some gRAfter) (hx2 : cfg.ext 28 = some gRSeal) {v : PV} {l : List UInt8} (hv : inL v = some l) (hl : l.length ≤ 140737488355000) {fuel : Nat} :
    ∃ r st', evFn cfg (fuel + 1) 26 [v] { sto := .leaf, cnt := 1 } = some (r, st') ∧ closeRes st' r = some (rUnsealV l) := by
  refine evFn_W hf ?_
  unfold m26
  have hlv := in_len hv
  unfold rUnsealV
  by_cases h0 : l.length < 4
  · rw [if_pos h0]
    simp (disch := first | omega | rfl | assumption) only [putArgs, ↓Z0, ↓Xp, ↓Xt, Xq, Xc, binP, ofCells, Nat.reduceAdd, Nat.reduceMul, Nat.reduceLT, Nat.reduceEqDiff, reduceIte, Xm, Nat.reduceLeDiff, Xa, Xn, unP, len_f, len_n, len_r, hlv]
    refine ⟨nofun, _, rfl, ?_⟩
    simp only [tupV, ↓Z0, ↓Xp, ↓Xt, Xq, Xc, binP, ofCells, Nat.reduceAdd, Nat.reduceMul, Nat.reduceLT, Nat.reduceEqDiff, reduceIte]
    rfl
  rw [if_neg h0]
  obtain ⟨n, hn⟩ : ∃ n, l.length - 4 = n := ⟨_, rfl⟩
  have hm : (l.take n).length = n := by rw [List.length_take]; omega
  rw [hn]
  obtain ⟨m, hme⟩ : ∃ m, l.take n = m := ⟨_, rfl⟩
  rw [hme] at hm ⊢
  obtain ⟨w, hsl, hw⟩ := upto_any hv (a := n) (by omega)
  rw [hme] at hw
  have hsub : ((l.length : Int) - ((4 : Nat) : Int)) = (n : Int) := by omega
  have hwr : IntKind.i64.wrap (n : Int) = (n : Int) := wr_i64 _ ⟨by omega, by omega⟩
  have hcv := fun st => cells_in (st := st) hv
  have hbl := bytesOf_of l
  (repeat (first | rw [Z0] | simp (maxSteps := 2000000) (disch := first | omega | rfl | assumption) only [↓Xp, ↓Xt, Xq, Xc, binP, ofCells, Nat.reduceAdd, Nat.reduceMul, Nat.reduceLT, Nat.reduceEqDiff, reduceIte, Xa, Xn, unP, len_f, len_n, len_r, Xm, Nat.reduceLeDiff, List.nil_append, List.cons_append, putArgs, hlv, hsub, hwr, hsl]))
  refine WV_callB (L := m) (deepL_two (deep_in hw) rfl) (by have := rafter_g (cfg := cfg) (callE := evFn cfg fuel) hx1 hw (show inL .nsl = some [] from rfl) (by simp only [List.length_nil]; omega); rwa [List.append_nil] at this) (by first | omega | (simp only [Z0L_, Z0M_, Nat.add_assoc, Nat.reduceAdd]; omega) | (simp only; omega)) ?_
  intro st1 o1 _ c1 f1
  (try simp only [Z0L_] at c1)
  (repeat (first | rw [Z0] | simp (maxSteps := 2000000) (disch := first | omega | rfl | assumption) only [↓Xp, ↓Xt, Xq, Xc, binP, ofCells, Nat.reduceAdd, Nat.reduceMul, Nat.reduceLT, Nat.reduceEqDiff, reduceIte, Xa, Xn, unP, len_f, len_n, len_r, Xm, Nat.reduceLeDiff, List.nil_append, List.cons_append, putArgs, hlv]))
  refine WV_callqB (L := sealB m) (deepL_one (o1.cnt (by omega)).deepV) (rseal_g hx2 o1.inV (by omega)) (by first | omega | (simp only [Z0L_, Z0M_, Nat.add_assoc, Nat.reduceAdd]; omega) | (simp only; omega)) ?_
  intro st2 o2 _ c2 f2
  (try simp only [Z0L_] at c2)
  replace o1 := o1.over f2 rfl (by omega) (by omega)
  have hco := o2.cells
  have hbs := bytesOf_of (sealB m)
  by_cases he : sealB m = l
  · rw [if_pos he]
    have hbe : (sealB m == l) = true := by rw [he]; exact beq_self_eq_true _
    simp (disch := first | omega | rfl | assumption) only [↓Z0, ↓Xp, ↓Xt, Xq, Xc, binP, ofCells, Nat.reduceAdd, Nat.reduceMul, Nat.reduceLT, Nat.reduceEqDiff, reduceIte, Xm, Nat.reduceLeDiff, Xa, Xn, unP, len_f, len_n, len_r, hco, hbs, hcv, hbl, hbe, Option.map_some]
    refine ⟨nofun, _, rfl, ?_⟩
    simp only [tupV, ↓Z0, ↓Xp, ↓Xt, Xq, Xc, binP, ofCells, Nat.reduceAdd, Nat.reduceMul, Nat.reduceLT, Nat.reduceEqDiff, reduceIte]
    rw [← hm]
    exact close_tupO (pre := []) (post := [.i .i64 0]) (o1.cnt (by omega)) rfl rfl (clO_bytes m) (by decide)
  · rw [if_neg he]
    have hbe : (sealB m == l) = false := by simpa using he
    simp (disch := first | omega | rfl | assumption) only [↓Z0, ↓Xp, ↓Xt, Xq, Xc, binP, ofCells, Nat.reduceAdd, Nat.reduceMul, Nat.reduceLT, Nat.reduceEqDiff, reduceIte, Xm, Nat.reduceLeDiff, Xa, Xn, unP, len_f, len_n, len_r, hco, hbs, hcv, hbl, hbe, Option.map_some]
    refine ⟨nofun, _, rfl, ?_⟩
    simp only [tupV, ↓Z0, ↓Xp, ↓Xt, Xq, Xc, binP, ofCells, Nat.reduceAdd, Nat.reduceMul, Nat.reduceLT, Nat.reduceEqDiff, reduceIte]
    rfl
def extR4b : FuncId → Option (List PV → Option PV) := fun f => if f = 46 then some gRAfter else if f = 28 then some gRSeal else if f = 29 then some gRUint else none
noncomputable def cfgR4b : Cfg := { fn := fun f => lookT f tblL, ext := extR4b }
theorem extR4b_ok {Gl : Gmap} : ∀ f g, extR4b f = some g → PureOK Go.Proofs.Try.prog Gl f g := by
  intro f g h
  unfold extR4b at h
  by_cases e : f = 46
  · subst e; rw [if_pos rfl] at h; cases h
    exact pure_of cfgR0_ok after_any
  rw [if_neg e] at h; clear e
  by_cases e : f = 28
  · subst e; rw [if_pos rfl] at h; cases h
    exact pure_of cfgR4_ok rseal_any
  rw [if_neg e] at h; clear e
  by_cases e : f = 29
  · subst e; rw [if_pos rfl] at h; cases h
    exact pure_of cfgR1_ok ruint_any
  rw [if_neg e] at h; clear e
  cases h
theorem cfgR4b_ok {Gl : Gmap} : CfgOK Go.Proofs.Try.prog Gl cfgR4b := cfg_okt tbl_all extR4b_ok
theorem hxR4b_gRAfter : extR4b 46 = some gRAfter := by kernel_rfl
theorem hxR4b_gRSeal : extR4b 28 = some gRSeal := by kernel_rfl
theorem hxR4b_gRUint : extR4b 29 = some gRUint := by kernel_rfl

theorem runseal_any (args : List PV) (r : PV) (h : gRUnseal args = some r) : ∃ fuel, evP cfgR4b fuel 26 args = some r := by
  unfold gRUnseal at h
  split at h
  · split at h
    · rename_i v l hl
      split at h
      · rename_i hc
        simp only [Option.some.injEq] at h
        subst h
        exact ⟨0 + 1, evP_of (by kernel_rfl) (open_in hl) (runseal_ev (cfg := cfgR4b) (by kernel_rfl) (by kernel_rfl) (by kernel_rfl) hl hc)⟩
      · simp at h
    · simp at h
  · simp at h
end Go.Pe
