/-
  Package low: a place chosen, events held against one another, bytes and events copied. No condition.
-/
import Derived.Test.YtogdkhejfkbnmaaEvtK
import Derived.Test.YtogdkhejfkbnmaaEvtA0
import Derived.Test.YtogdkhejfkbnmaaPe7
set_option linter.unusedVariables false
set_option linter.unusedSimpArgs false
namespace Go.Pe
open Go Go.Am Go.RowKit

def pickI (x n : Int) : Int := if n < 2 then 0 else (x.tmod n + n).tmod n
theorem tmod_bounds {x n : Int} (h : 0 < n) : -n < x.tmod n ∧ x.tmod n < n := by
  rcases Int.le_total 0 x with hx | hx
  · rw [Int.tmod_eq_emod_of_nonneg hx]
    have h1 := Int.emod_nonneg x (show n ≠ 0 by omega)
    have h2 := Int.emod_lt_of_pos x h
    omega
  · have h0 := Int.tmod_eq_emod_of_nonneg (b := n) (show 0 ≤ -x by omega)
    rw [Int.neg_tmod] at h0
    have h1 := Int.emod_nonneg (-x) (show n ≠ 0 by omega)
    have h2 := Int.emod_lt_of_pos (-x) h
    omega
theorem pick_nonneg {x n : Int} (h : 0 ≤ n) : 0 ≤ pickI x n ∧ (0 < n → pickI x n < n) := by
  unfold pickI
  split
  · omega
  · have h1 := tmod_bounds (x := x) (show 0 < n by omega)
    rw [Int.tmod_eq_emod_of_nonneg (show 0 ≤ x.tmod n + n by omega)]
    have h2 := Int.emod_nonneg (x.tmod n + n) (show n ≠ 0 by omega)
    have h3 := Int.emod_lt_of_pos (x.tmod n + n) (show 0 < n by omega)
    omega
theorem pick_ev {cfg : Cfg} (hf : cfg.fn 30 = some m30) {fuel : Nat} {st : St} {x n : Int} (hx : in64 x) (hn : 0 ≤ n ∧ n ≤ 4611686018427387904) :
    ∃ r st', evFn cfg (fuel + 1) 30 [.i .i64 x, .i .i64 n] st = some (r, st') ∧ r = .i .i64 (pickI x n) := by
  refine evFn_W hf ?_
  unfold m30
  by_cases h2 : n < 2
  · have e2 : n < Int.ofNat 2 := h2
    simp only [putArgs, ↓Z0, ↓Xp, ↓Xt, Xq, Xc, binP, ofCells, Nat.reduceAdd, Nat.reduceMul, Nat.reduceLT, Nat.reduceEqDiff, reduceIte, e2]
    refine ⟨nofun, _, rfl, ?_⟩
    unfold pickI
    rw [if_pos h2]
    simp only [tupV, ↓Z0, ↓Xp, ↓Xt, Xq, Xc, binP, ofCells, Nat.reduceAdd, Nat.reduceMul, Nat.reduceLT, Nat.reduceEqDiff, reduceIte]
    rfl
  · have e2 : ¬ n < Int.ofNat 2 := h2
    have e0 : ¬ n = 0 := by omega
    have hb := tmod_bounds (x := x) (show 0 < n by omega)
    have hw : IntKind.i64.wrap (x.tmod n + n) = x.tmod n + n := wr_i64 _ ⟨by omega, by omega⟩
    simp only [putArgs, ↓Z0, ↓Xp, ↓Xt, Xq, Xc, binP, ofCells, Nat.reduceAdd, Nat.reduceMul, Nat.reduceLT, Nat.reduceEqDiff, reduceIte, e2, e0, hw]
    refine ⟨nofun, _, rfl, ?_⟩
    unfold pickI
    rw [if_neg h2]
    simp only [tupV, ↓Z0, ↓Xp, ↓Xt, Xq, Xc, binP, ofCells, Nat.reduceAdd, Nat.reduceMul, Nat.reduceLT, Nat.reduceEqDiff, reduceIte]
def gPick : List PV → Option PV
  | [.i .i64 x, .i .i64 n] => if -9223372036854775808 ≤ x ∧ x < 9223372036854775808 ∧ 0 ≤ n ∧ n ≤ 4611686018427387904 then some (.i .i64 (pickI x n)) else none
  | _ => none
theorem pick_any (args : List PV) (r : PV) (h : gPick args = some r) : ∃ fuel, evP cfgE0 fuel 30 args = some r := by
  unfold gPick at h
  split at h
  · split at h
    · rename_i hc
      simp only [Option.some.injEq] at h
      subst h
      exact ⟨0 + 1, ev_flat (by kernel_rfl) rfl (fun _ => rfl) (pick_ev (cfg := cfgE0) (by kernel_rfl) (show _ ∧ _ from ⟨hc.1, by omega⟩) hc.2.2)⟩
    · simp at h
  · simp at h
def inEl : PV → Option (List Ev)
  | .nsl => some []
  | .fsl n cs => match evsOf cs with
    | some l => if n = l.length then some l else none
    | none => none
  | _ => none
theorem inEl_inEv {v : PV} {l : List Ev} (h : inEl v = some l) : inEv v l := by
  unfold inEl at h
  split at h
  · simp only [Option.some.injEq] at h
    subst h; rfl
  · split at h
    · rename_i n cs l' hl
      split at h
      · rename_i hn
        simp only [Option.some.injEq] at h
        subst h
        exact ⟨hn, evsOf_some _ (Nat.le_refl _) hl⟩
      · simp at h
    · simp at h
  · simp at h
theorem inEl_fsl (l : List Ev) : inEl (.fsl l.length (evsC l)) = some l := by
  unfold inEl
  simp only [evsOf_evsC, if_true]
theorem inEl_flat {v : PV} {l : List Ev} (h : inEl v = some l) : v.flat = true ∧ v.one = true ∧ v.cells = [v] := by
  cases v <;> first | exact ⟨rfl, rfl, rfl⟩ | simp [inEl] at h
theorem open_inE {v : PV} {l : List Ev} {rest : List PV} (h : inEl v = some l) : openArgs (v :: rest) = (v :: rest, { sto := .leaf, cnt := 1 }) := by
  cases v <;> first | rfl | simp [inEl] at h
theorem cells_inE {st : St} {v : PV} {l : List Ev} (h : inEv v l) : cellsOf st 5 v = some (l.length, evsC l) := by
  cases v <;> simp only [inEv] at h
  · rw [h]; rfl
  · obtain ⟨rfl, rfl⟩ := h
    unfold cellsOf
    simp only [evsC_len, if_true]
theorem ev_one (l : List Ev) : (evsC l).all PV.one = true := by
  rw [List.all_eq_true]
  intro p hp
  simp only [evsC, List.mem_flatMap] at hp
  obtain ⟨e, _, hp⟩ := hp
  simp only [evC, List.mem_cons, List.not_mem_nil, or_false] at hp
  rcases hp with rfl | rfl | rfl | rfl | rfl <;> rfl
theorem ev_flatC (l : List Ev) : (evsC l).all PV.flat = true := by
  rw [List.all_eq_true]
  intro p hp
  simp only [evsC, List.mem_flatMap] at hp
  obtain ⟨e, _, hp⟩ := hp
  simp only [evC, List.mem_cons, List.not_mem_nil, or_false] at hp
  rcases hp with rfl | rfl | rfl | rfl | rfl <;> rfl
theorem eqs_ev (x y : Ev) : eqsP [(0, 0), (1, 0), (2, 0), (3, 0), (4, 0)] (evC x) (evC y) = some (decide (x = y)) := by
  obtain ⟨t, o, j, a, b⟩ := x
  obtain ⟨t', o', j', a', b'⟩ := y
  have ho : ((o.toNat : Int) == (o'.toNat : Int)) = (o == o') := by
    rw [Bool.eq_iff_iff]
    simp only [beq_iff_eq]
    constructor
    · intro h; exact UInt8.toNat_inj.1 (by omega)
    · intro h; rw [h]
  simp only [evC, Z1a_, Z19_, List.getElem?_cons_zero, List.getElem?_cons_succ, Z1d_, Z1e_, eq5_bool, ho]
  congr 1
  rw [Bool.eq_iff_iff]
  simp [and_assoc]
theorem samee_ev {cfg : Cfg} (hf : cfg.fn 29 = some m29) {fuel : Nat} {st : St} {v w : PV} {xs ys : List Ev} (hv : inEv v xs) (hw : inEv w ys) (hl : xs.length ≤ 140737488355328) (hfu : xs.length < fuel) :
    ∃ r st', evFn cfg (fuel + 1) 29 [v, w] st = some (r, st') ∧ r = .b (decide (xs = ys)) := by
  refine evFn_W hf ?_
  unfold m29
  have h1 := inEv_len hv
  have h2 := inEv_len hw
  by_cases hne : xs.length = ys.length
  · have e1 : ((xs.length : Int) != (ys.length : Int)) = false := by rw [hne]; simp
    simp only [putArgs, ↓Z0, ↓Xp, ↓Xt, Xq, Xc, binP, ofCells, Nat.reduceAdd, Nat.reduceMul, Nat.reduceLT, Nat.reduceEqDiff, reduceIte, h1, h2, e1]
    refine Z9 (k := xs.length - 0) (fun d x => ∃ i : Nat, i ≤ xs.length ∧ d = xs.length - i ∧ (xs.drop i = ys.drop i ↔ xs = ys) ∧ x.env.get 0 = v ∧ x.env.get 1 = w ∧ x.env.get 5 = .i .i64 i) ?_ ⟨0, Nat.zero_le _, rfl, Iff.rfl, ?_⟩ (by omega)
    · rintro d ⟨env, st1⟩ ⟨i, hi, rfl, hp, g0, g1, g5⟩
      simp only at g0 g1 g5
      by_cases hlt : i < xs.length
      · have hx0 : xs ≠ [] := by intro e; rw [e] at hlt; simp at hlt
        have hy0 : ys ≠ [] := by intro e; rw [e] at hne; rw [hne] at hlt; simp at hlt
        have hlt2 : i < ys.length := by omega
        have hvc := inEv_cons hv hx0
        have hwc := inEv_cons hw hy0
        rw [hvc] at g0
        rw [hwc] at g1
        rw [List.drop_eq_getElem_cons hlt, List.drop_eq_getElem_cons hlt2] at hp
        have hld := fun c => load_evs (st := ⟨st1.sto, c⟩) hlt
        have hld2 := fun c => load_evs (st := ⟨st1.sto, c⟩) hlt2
        generalize xs[i] = X at *
        generalize ys[i] = Y at *
        have hlti : ((i : Nat) : Int) < ((xs.length : Nat) : Int) := by omega
        have hlti2 : ((i : Nat) : Int) < ((ys.length : Nat) : Int) := by omega
        have h0i : 0 ≤ ((i : Nat) : Int) := by omega
        have hln1 : (evsC xs).length = xs.length * 5 := evsC_len xs
        have hln2 : (evsC ys).length = ys.length * 5 := evsC_len ys
        have hwi : IntKind.i64.wrap ((i : Int) + Int.ofNat 1) = ((i + 1 : Nat) : Int) := by
          rw [wr_i64 _ ⟨by show _ ≤ (i : Int) + 1; omega, by show (i : Int) + 1 < _; omega⟩]; rfl
        have hln : ∀ (n : Nat) (cs : List PV), lenP (.fsl n cs) = some (.i .i64 n) := fun _ _ => rfl
        have hq := eqs_ev X Y
        by_cases hcd : X = Y
        · subst hcd
          have hp' : xs.drop (i + 1) = ys.drop (i + 1) ↔ xs = ys := by rw [← hp]; simp
          have hq' : eqsP [(0, 0), (1, 0), (2, 0), (3, 0), (4, 0)] (evC X) (evC X) = some true := by rw [hq]; simp
          simp only [↓Z0, ↓Xp, ↓Xt, Xq, Xc, binP, ofCells, Nat.reduceAdd, Nat.reduceMul, Nat.reduceLT, Nat.reduceEqDiff, reduceIte, g0, g1, g5, hln, hlti, hlti2, h0i, hln1, hln2, hld, hld2, hq', hwi, Z1j_]
          refine ⟨xs.length - (i + 1), by omega, i + 1, ?_⟩
          rw [hvc, hwc]
          (repeat' (first | exact True.intro | rfl | assumption | omega | apply And.intro))
        · have hp' : ¬ xs = ys := by rw [← hp]; simp [hcd]
          have hq' : eqsP [(0, 0), (1, 0), (2, 0), (3, 0), (4, 0)] (evC X) (evC Y) = some false := by rw [hq]; simp [hcd]
          simp only [↓Z0, ↓Xp, ↓Xt, Xq, Xc, binP, ofCells, Nat.reduceAdd, Nat.reduceMul, Nat.reduceLT, Nat.reduceEqDiff, reduceIte, g0, g1, g5, hln, hlti, hlti2, h0i, hln1, hln2, hld, hld2, hq', Z1k_]
          refine ⟨nofun, _, rfl, ?_⟩
          simp only [tupV, hp', ↓Z0, ↓Xp, ↓Xt, Xq, Xc, binP, ofCells, Nat.reduceAdd, Nat.reduceMul, Nat.reduceLT, Nat.reduceEqDiff, reduceIte]
      · have hie : i = xs.length := by omega
        subst hie
        have hp' : xs = ys := by
          rw [← hp, List.drop_length, List.drop_of_length_le (by omega)]
        simp only [↓Z0, ↓Xp, ↓Xt, Xq, Xc, binP, ofCells, Nat.reduceAdd, Nat.reduceMul, Nat.reduceLT, Nat.reduceEqDiff, reduceIte, g0, g1, g5, h1, Int.lt_irrefl]
        refine ⟨nofun, _, rfl, ?_⟩
        simp only [tupV, ↓Z0, ↓Xp, ↓Xt, Xq, Xc, binP, ofCells, Nat.reduceAdd, Nat.reduceMul, Nat.reduceLT, Nat.reduceEqDiff, reduceIte, hp']
    · simp [Env.get_put]
  · have e1 : ((xs.length : Int) != (ys.length : Int)) = true := by simp; omega
    have e2 : ¬ xs = ys := by intro e; exact hne (by rw [e])
    simp only [putArgs, ↓Z0, ↓Xp, ↓Xt, Xq, Xc, binP, ofCells, Nat.reduceAdd, Nat.reduceMul, Nat.reduceLT, Nat.reduceEqDiff, reduceIte, h1, h2, e1]
    refine ⟨nofun, _, rfl, ?_⟩
    simp only [tupV, e2, ↓Z0, ↓Xp, ↓Xt, Xq, Xc, binP, ofCells, Nat.reduceAdd, Nat.reduceMul, Nat.reduceLT, Nat.reduceEqDiff, reduceIte]
def gSameE : List PV → Option PV
  | [v, w] => match inEl v, inEl w with
    | some a, some b => if a.length ≤ 140737488355328 then some (.b (decide (a = b))) else none
    | _, _ => none
  | _ => none
theorem samee_any (args : List PV) (r : PV) (h : gSameE args = some r) : ∃ fuel, evP cfgE0 fuel 29 args = some r := by
  unfold gSameE at h
  split at h
  · split at h
    · rename_i a b ha hb
      split at h
      · rename_i hc
        simp only [Option.some.injEq] at h
        subst h
        exact ⟨a.length + 1 + 1, ev_flat (by kernel_rfl) (open_inE ha) (fun _ => rfl) (samee_ev (cfg := cfgE0) (by kernel_rfl) (inEl_inEv ha) (inEl_inEv hb) hc (by omega))⟩
      · simp at h
    · simp at h
  · simp at h
def gCopyB : List PV → Option PV
  | [v] => match inL v with
    | some l => if l.length ≤ maxBytes then some (.osl 1 l.length (ofBytes l)) else none
    | none => none
  | _ => none
theorem copyb_any (args : List PV) (r : PV) (h : gCopyB args = some r) : ∃ fuel, evP cfgE0 fuel 13 args = some r := by
  unfold gCopyB at h
  split at h
  · rename_i v
    split at h
    · rename_i l hl
      split at h
      · rename_i hc
        simp only [Option.some.injEq] at h
        subst h
        refine ⟨0 + 1, evP_of (by kernel_rfl) (open_in hl) (evFn_W (by kernel_rfl : cfgE0.fn 13 = some m13) ?_)⟩
        unfold m13
        have h1 := fun st => cells_in (st := st) hl
        simp only [putArgs, ↓Z0, ↓Xp, ↓Xt, Xq, Xc, binP, ofCells, Nat.reduceAdd, Nat.reduceMul, Nat.reduceLT, Nat.reduceEqDiff, reduceIte, h1, bytesOf_of, hc]
        refine ⟨nofun, _, rfl, ?_⟩
        simp only [tupV, ↓Z0, ↓Xp, ↓Xt, Xq, Xc, binP, ofCells, Nat.reduceAdd, Nat.reduceMul, Nat.reduceLT, Nat.reduceEqDiff, reduceIte]
        exact close_bytes (St.get_putk _ _ _)
      · simp at h
    · simp at h
  · simp at h
theorem close_evs1 {st : St} {k : Nat} {l : List Ev} (hk : st.get k = some (.cells (evsC l) false)) : closeRes st (.rsl k 5 0 l.length) = some (.osl 5 l.length (evsC l)) := by
  have hw : whole? st (.rsl k 5 0 l.length) = some (k, 5, l.length, evsC l) := by
    unfold whole?
    simp only [hk, evsC_len]
    rw [if_pos ⟨trivial, trivial, by omega⟩]
  unfold closeRes
  simp only [hw, keysL_flat (ev_flatC l), deepL_flat (ev_flatC l)]
  rfl
def gCopyE : List PV → Option PV
  | [v] => match inEl v with
    | some l => if l.length * 40 ≤ maxBytes then some (if l = [] then .nsl else .osl 5 l.length (evsC l)) else none
    | none => none
  | _ => none
theorem copye_any (args : List PV) (r : PV) (h : gCopyE args = some r) : ∃ fuel, evP cfgE0 fuel 23 args = some r := by
  unfold gCopyE at h
  split at h
  · rename_i v
    split at h
    · rename_i l hl
      split at h
      · rename_i hc
        simp only [Option.some.injEq] at h
        subst h
        refine ⟨0 + 1, evP_of (by kernel_rfl) (open_inE hl) (evFn_W (by kernel_rfl : cfgE0.fn 23 = some m23) ?_)⟩
        unfold m23
        have h1 := fun st => cells_inE (st := st) (inEl_inEv hl)
        by_cases h0 : l = []
        · subst h0
          have ha : ∀ st key, appendP st key 5 40 0 (evsC []) .nsl = some (.nsl, st) := fun _ _ => rfl
          simp only [putArgs, ↓Z0, ↓Xp, ↓Xt, Xq, Xc, binP, ofCells, Nat.reduceAdd, Nat.reduceMul, Nat.reduceLT, Nat.reduceEqDiff, reduceIte, h1, ev_one, ha]
          refine ⟨nofun, _, rfl, ?_⟩
          simp only [tupV, ↓Z0, ↓Xp, ↓Xt, Xq, Xc, binP, ofCells, Nat.reduceAdd, Nat.reduceMul, Nat.reduceLT, Nat.reduceEqDiff, reduceIte, if_true]
          rfl
        · have hlp : 0 < l.length := List.length_pos_iff.2 h0
          have ha : ∀ st key, appendP st key 5 40 l.length (evsC l) .nsl = some (.rsl key 5 0 l.length, st.put key (some (.cells (evsC l) false))) := by
            intro st key
            unfold appendP
            rw [if_neg (by omega), if_pos hc]
          simp only [putArgs, ↓Z0, ↓Xp, ↓Xt, Xq, Xc, binP, ofCells, Nat.reduceAdd, Nat.reduceMul, Nat.reduceLT, Nat.reduceEqDiff, reduceIte, h1, ev_one, ha]
          refine ⟨nofun, _, rfl, ?_⟩
          simp only [tupV, ↓Z0, ↓Xp, ↓Xt, Xq, Xc, binP, ofCells, Nat.reduceAdd, Nat.reduceMul, Nat.reduceLT, Nat.reduceEqDiff, reduceIte]
          rw [if_neg h0]
          exact close_evs1 (St.get_putk _ _ _)
      · simp at h
    · simp at h
  · simp at h

theorem closed_frame (F : List UInt8) (k : IntKind) (e : Int) : PV.closedB (.tup [.osl 1 F.length (ofBytes F), .i k e]) = true := by
  show PV.closed (11 + 1) _ = true
  unfold PV.closed
  simp only [List.all_cons, List.all_nil, Bool.and_true]
  have h1 : PV.closed 11 (.osl 1 F.length (ofBytes F)) = true := by
    show PV.closed (10 + 1) _ = true
    unfold PV.closed
    exact closed_ofBytes 9 F
  rw [h1]; rfl
theorem closed_read (L : List Ev) (k k' : IntKind) (a e : Int) : PV.closedB (.tup [.osl 5 L.length (evsC L), .i k a, .i k' e]) = true := by
  show PV.closed (11 + 1) _ = true
  unfold PV.closed
  simp only [List.all_cons, List.all_nil, Bool.and_true]
  have h1 : PV.closed 11 (.osl 5 L.length (evsC L)) = true := by
    show PV.closed (10 + 1) _ = true
    unfold PV.closed
    exact closed_evs 9 L
  rw [h1]; rfl
theorem deepO_evs (st : St) (f : Nat) (l : List Ev) : mapO (deep st (f + 1)) (evsC l) = some (evsC l) := by
  induction l with
  | nil => rfl
  | cons e r ih =>
    have h : evsC (e :: r) = evC e ++ evsC r := rfl
    have d : ∀ (k : IntKind) (n : Int), deep st (f + 1) (.i k n) = some (.i k n) := fun k n => by unfold deep; rfl
    rw [h]
    unfold evC
    simp only [List.cons_append, List.nil_append, mapO, d, ih]
theorem deep_e {st : St} {k : Nat} {fz : Bool} {m : List Ev} (hk : st.get k = some (.cells (evsC m) fz)) : deep st 12 (.rsl k 5 0 m.length) = some (.fsl m.length (evsC m)) := by
  show deep st (11 + 1) _ = _
  unfold deep
  simp only [hk, cut?, evsC_len]
  rw [if_pos (by omega)]
  simp only [List.drop_zero]
  rw [show m.length * 5 = (evsC m).length from (evsC_len m).symm, List.take_length, deepO_evs]
  rfl
theorem deep_evc (st : St) (x : Ev) : deep st 12 (.agg (evC x)) = some (.agg (evC x)) := rfl
def i64C (xs : List Int) : List PV := xs.map fun n => .i .i64 n
theorem load_evD {st : St} {l : List Ev} {i : Nat} (hi : i < l.length) : loadP st 5 (.fptr ((evsC l).drop (i * 5))) = some (evC (l.getD i .zero)) := by
  rw [load_evs hi]; simp [List.getD_eq_getElem?_getD, hi]
end Go.Pe
