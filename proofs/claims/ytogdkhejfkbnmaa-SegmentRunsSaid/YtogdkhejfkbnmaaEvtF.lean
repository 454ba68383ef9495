/-
  Events: a frame read, by the interpreter of plain data. No condition.
-/
import Derived.Test.YtogdkhejfkbnmaaEvtD
set_option linter.unusedVariables false
set_option linter.unusedSimpArgs false
namespace Go.Pe
open Go Go.Am Go.RowKit

def gEvents : List PV → Option PV
  | [v] => match inL v with
    | some l => if l.length ≤ 140737488355328 then some (eventsV l) else none
    | none => none
  | _ => none
def readL (b : List UInt8) (at0 : Int) : Sum (List Ev × Int) Int :=
  let g := getU b at0
  if g.2.2 ≠ 0 then .inr g.2.2
  else if 262144 < g.1 then .inr 3
  else if (b.length : Int) - g.2.1 < g.1 + 4 then .inr 11
  else
    let m := (b.drop g.2.1.toNat).take g.1
    if sealB m = (b.drop g.2.1.toNat).take (g.1 + 4) then
      match eventsL m with
      | some (l, true) => .inl (l, g.2.1 + g.1 + 4)
      | _ => .inr 10
    else .inr 12
def readV (b : List UInt8) (at0 : Int) : PV := match readL b at0 with
  | .inl (l, a) => .tup [.osl 5 l.length (evsC l), .i .i64 a, .i .i64 0]
  | .inr e => .tup [.nsl, .i .i64 0, .i .i64 e]
theorem mid_in {v : PV} {l : List UInt8} (h : inL v = some l) {a n : Nat} (ha : a + n ≤ l.length) (hl : l ≠ []) : sliceP 1 (some (.i .i64 (a : Int))) (some (.i .i64 ((a + n : Nat) : Int))) v = some (.fsl n (ofBytes ((l.drop a).take n))) := by
  rw [in_cons h hl]
  unfold sliceP
  simp only [bound_ok (show 0 ≤ ((a + n : Nat) : Int) ∧ ((a + n : Nat) : Int) ≤ (l.length : Int) by omega), bound_ok (show 0 ≤ (a : Int) ∧ (a : Int) ≤ ((a + n : Nat) : Int) by omega), Int.toNat_natCast, len_ofBytes, Nat.mul_one, if_true]
  rw [drop_ofBytes, take_ofBytes, Nat.add_sub_cancel_left]
theorem closed_evs (f : Nat) (l : List Ev) : (evsC l).all (PV.closed (f + 1)) = true := by
  rw [List.all_eq_true]
  intro p hp
  simp only [evsC, List.mem_flatMap] at hp
  obtain ⟨e, _, hp⟩ := hp
  simp only [evC, List.mem_cons, List.not_mem_nil, or_false] at hp
  rcases hp with rfl | rfl | rfl | rfl | rfl <;> rfl
theorem close_evs2 {st : St} {k : Nat} {l : List Ev} {a b : Int} (hk : st.get k = some (.cells (evsC l) false)) : closeRes st (.tup [.rsl k 5 0 l.length, .i .i64 a, .i .i64 b]) = some (.tup [.osl 5 l.length (evsC l), .i .i64 a, .i .i64 b]) := by
  have hw : whole? st (.rsl k 5 0 l.length) = some (k, 5, l.length, evsC l) := by
    unfold whole?
    simp only [hk, evsC_len]
    rw [if_pos ⟨trivial, trivial, by omega⟩]
  have hfl : (evsC l).all PV.flat = true := by
    rw [List.all_eq_true]
    intro p hp
    simp only [evsC, List.mem_flatMap] at hp
    obtain ⟨e, _, hp⟩ := hp
    simp only [evC, List.mem_cons, List.not_mem_nil, or_false] at hp
    rcases hp with rfl | rfl | rfl | rfl | rfl <;> rfl
  have hf : firstWhole st [.rsl k 5 0 l.length, .i .i64 a, .i .i64 b] = some (0, k, 5, l.length, evsC l) := by
    unfold firstWhole
    rw [hw]
  unfold closeRes
  simp only [hf, keysL_flat hfl, deepL_flat hfl]
  rfl
theorem recv_unseal (st : St) (key : Nat) (m : List UInt8) (e : Int) : ∃ w st', recvRes st key (.tup [outV m, .i .i64 e]) = some (.tup [w, .i .i64 e], st') ∧ ∀ n, deepL ⟨st'.sto, n⟩ [w] = some [.fsl m.length (ofBytes m)] := by
  unfold outV
  by_cases h : m = []
  · rw [if_pos h, h]
    exact ⟨.fsl 0 [], st, rfl, fun _ => rfl⟩
  · rw [if_neg h]
    refine ⟨.rsl key 1 0 m.length, st.put key (some (.cells (ofBytes m) false)), rfl, fun n => ?_⟩
    have := deep_bytesF (st := ⟨(st.put key (some (.cells (ofBytes m) false))).sto, n⟩) 10 (St.get_putk st key (some (.cells (ofBytes m) false)))
    show mapO (deep _ (11 + 1)) _ = _
    simp only [mapO, this]
theorem closed_unseal (m : List UInt8) (e : Int) : PV.closedB (.tup [outV m, .i .i64 e]) = true := by
  unfold outV
  by_cases h : m = []
  · rw [if_pos h]; rfl
  · rw [if_neg h]
    show PV.closed (11 + 1) _ = true
    unfold PV.closed
    simp only [List.all_cons, List.all_nil, Bool.and_true]
    have h1 : PV.closed 11 (.osl 1 m.length (ofBytes m)) = true := by
      show PV.closed (10 + 1) _ = true
      unfold PV.closed
      exact closed_ofBytes 9 m
    rw [h1]; rfl
theorem closed_events (L : List Ev) (x : Bool) : PV.closedB (.tup [.osl 5 L.length (evsC L), .b x]) = true := by
  show PV.closed (11 + 1) _ = true
  unfold PV.closed
  simp only [List.all_cons, List.all_nil, Bool.and_true]
  have h1 : PV.closed 11 (.osl 5 L.length (evsC L)) = true := by
    show PV.closed (10 + 1) _ = true
    unfold PV.closed
    exact closed_evs 9 L
  rw [h1]; rfl
set_option maxHeartbeats 8000000 in
theorem read_ev {cfg : Cfg} (hf : cfg.fn 38 = some m38) (hx1 : cfg.ext 45 = some gGetU) (hx2 : cfg.ext 43 = some gUnseal) (hx3 : cfg.ext 58 = some gEvents) {fuel : Nat} {v : PV} {l : List UInt8} {at0 : Int} (hv : inL v = some l) (hll : l.length ≤ 140737488355328) :
    ∃ r st', evFn cfg (fuel + 1) 38 [v, .i .i64 at0] { sto := .leaf, cnt := 1 } = some (r, st') ∧ closeRes st' r = some (readV l at0) := by
  refine evFn_W hf ?_
  unfold m38
  have hlen := in_len hv
  have hlt := getU_lt l at0
  have hok := @getU_ok l at0
  have c1 : ∀ (st : St) (key : Nat), callStep (runPure cfg (evFn cfg fuel) 45) false st key [v, .i .i64 at0] = some (.tup [.i .u64 ((getU l at0).1 : Int), .i .i64 (getU l at0).2.1, .i .i64 (getU l at0).2.2], st) := by
    intro st key
    refine callStep_flat (by simp only [List.all_cons, in_flat hv, List.all_nil, Bool.and_self, Bool.true_and]; rfl) ?_ rfl
    rw [runPure_ext hx1]
    unfold gGetU
    simp only [hv]
    rw [if_pos hll]
    rfl
  unfold readV readL
  simp only []
  generalize getU l at0 = p at *
  by_cases h1 : p.2.2 ≠ 0
  · have e1 : (p.2.2 != Int.ofNat 0) = true := by simpa using h1
    rw [if_pos h1]
    simp only [putArgs, ↓Z0, ↓Xp, ↓Xt, Xq, Xc, binP, ofCells, Nat.reduceAdd, Nat.reduceMul, Nat.reduceLT, Nat.reduceEqDiff, reduceIte, Xm, Nat.reduceLeDiff, c1, e1]
    refine ⟨nofun, _, rfl, ?_⟩
    simp only [tupV, ↓Z0, ↓Xp, ↓Xt, Xq, Xc, binP, ofCells, Nat.reduceAdd, Nat.reduceMul, Nat.reduceLT, Nat.reduceEqDiff, reduceIte]
    exact closeRes_tup rfl
  have e1 : (p.2.2 != Int.ofNat 0) = false := by simpa using h1
  have h1' : p.2.2 = 0 := by simpa using h1
  rw [if_neg h1]
  by_cases h2 : 262144 < p.1
  · have e2 : (p.1 : Int) > Int.ofNat 262144 := by show (p.1 : Int) > 262144; omega
    rw [if_pos h2]
    simp only [putArgs, ↓Z0, ↓Xp, ↓Xt, Xq, Xc, binP, ofCells, Nat.reduceAdd, Nat.reduceMul, Nat.reduceLT, Nat.reduceEqDiff, reduceIte, Xm, Nat.reduceLeDiff, c1, e1, e2]
    refine ⟨nofun, _, rfl, ?_⟩
    simp only [tupV, ↓Z0, ↓Xp, ↓Xt, Xq, Xc, binP, ofCells, Nat.reduceAdd, Nat.reduceMul, Nat.reduceLT, Nat.reduceEqDiff, reduceIte]
    exact closeRes_tup rfl
  have e2 : ¬ (p.1 : Int) > Int.ofNat 262144 := by show ¬ (p.1 : Int) > 262144; omega
  rw [if_neg h2]
  obtain ⟨ha0, hal, rest, hrest, hnx, hnl⟩ := hok h1'
  obtain ⟨k, hk⟩ : ∃ k : Nat, p.2.1 = k := ⟨p.2.1.toNat, by omega⟩
  have hkl : k ≤ l.length := by omega
  simp only [hk] at c1
  have hw4 : IntKind.u64.wrap ((p.1 : Int) + Int.ofNat 4) = ((p.1 + 4 : Nat) : Int) := by
    rw [wr_u64 _ ⟨by show (0 : Int) ≤ (p.1 : Int) + 4; omega, by show (p.1 : Int) + 4 < _; omega⟩]; rfl
  have hws : IntKind.i64.wrap ((l.length : Int) - (k : Int)) = ((l.length - k : Nat) : Int) := by rw [wr_i64 _ (by omega)]; omega
  have hwu : IntKind.u64.wrap ((l.length - k : Nat) : Int) = ((l.length - k : Nat) : Int) := wr_u64 _ ⟨by omega, by omega⟩
  by_cases h3 : (l.length : Int) - p.2.1 < p.1 + 4
  · have e3 : ((p.1 + 4 : Nat) : Int) > ((l.length - k : Nat) : Int) := by omega
    rw [if_pos h3]
    simp only [putArgs, ↓Z0, ↓Xp, ↓Xt, Xq, Xc, binP, ofCells, Nat.reduceAdd, Nat.reduceMul, Nat.reduceLT, Nat.reduceEqDiff, reduceIte, Xm, Nat.reduceLeDiff, c1, e1, e2, hlen, hw4, hws, hwu, e3]
    refine ⟨nofun, _, rfl, ?_⟩
    simp only [tupV, ↓Z0, ↓Xp, ↓Xt, Xq, Xc, binP, ofCells, Nat.reduceAdd, Nat.reduceMul, Nat.reduceLT, Nat.reduceEqDiff, reduceIte]
    exact closeRes_tup rfl
  have e3 : ¬ ((p.1 + 4 : Nat) : Int) > ((l.length - k : Nat) : Int) := by omega
  rw [if_neg h3]
  have hne : l ≠ [] := by intro e; rw [e] at hkl h3; simp at hkl h3; omega
  have hwi : IntKind.i64.wrap (p.1 : Int) = (p.1 : Int) := wr_i64 _ ⟨by omega, by omega⟩
  have hwa : IntKind.i64.wrap ((k : Int) + (p.1 : Int)) = ((k + p.1 : Nat) : Int) := by rw [wr_i64 _ (by omega)]; omega
  have hwb : IntKind.i64.wrap (((k + p.1 : Nat) : Int) + Int.ofNat 4) = ((k + (p.1 + 4) : Nat) : Int) := by
    rw [wr_i64 _ ⟨by show _ ≤ ((k + p.1 : Nat) : Int) + 4; omega, by show ((k + p.1 : Nat) : Int) + 4 < _; omega⟩]
    show ((k + p.1 : Nat) : Int) + 4 = _
    omega
  have hmid := mid_in hv (a := k) (n := p.1 + 4) (by omega) hne
  have hkt : p.2.1.toNat = k := by omega
  rw [hkt]
  have hB : ((l.drop k).take (p.1 + 4)).length = p.1 + 4 := by simp; omega
  have hBt : ((l.drop k).take (p.1 + 4)).take p.1 = (l.drop k).take p.1 := by rw [List.take_take]; congr 1; omega
  have hBin : inL (.fsl (p.1 + 4) (ofBytes ((l.drop k).take (p.1 + 4)))) = some ((l.drop k).take (p.1 + 4)) := by
    have := in_fsl ((l.drop k).take (p.1 + 4))
    rwa [hB] at this
  generalize (l.drop k).take (p.1 + 4) = B at *
  rw [← hBt]
  have eU : unsealV B = if sealB (B.take p.1) = B then .tup [outV (B.take p.1), .i .i64 0] else .tup [.nsl, .i .i64 12] := by
    unfold unsealV
    rw [if_neg (by omega), hB, Nat.add_sub_cancel]
  have hml : (B.take p.1).length ≤ 140737488355328 := by simp; omega
  generalize B.take p.1 = m at *
  have gU : runPure cfg (evFn cfg fuel) 43 [.fsl (p.1 + 4) (ofBytes B)] = some (unsealV B) := by
    rw [runPure_ext hx2]
    unfold gUnseal
    simp only [hBin]
    rw [if_pos (by omega)]
  by_cases h4 : sealB m = B
  · rw [if_pos h4] at eU ⊢
    rw [eU] at gU
    have e0 : ((0 : Int) != Int.ofNat 0) = false := rfl
    rw [Z0]
    simp only [putArgs, ↓Xp, ↓Xt, Xq, Xc, binP, ofCells, Nat.reduceAdd, Nat.reduceMul, Nat.reduceLT, Nat.reduceEqDiff, reduceIte]
    rw [Z0]
    simp only [↓Xp, ↓Xt, Xq, Xc, binP, ofCells, Nat.reduceAdd, Nat.reduceMul, Nat.reduceLT, Nat.reduceEqDiff, reduceIte, Xm, Nat.reduceLeDiff, c1]
    refine Za (fun x => x.env.get 0 = v ∧ x.env.get 7 = PV.i .u64 (p.1 : Int) ∧ x.env.get 8 = PV.i .i64 (k : Int)) ?_ ?_
    · simp only [↓Z0, ↓Xp, ↓Xt, Xq, Xc, binP, ofCells, Nat.reduceAdd, Nat.reduceMul, Nat.reduceLT, Nat.reduceEqDiff, reduceIte, Xm, Nat.reduceLeDiff, e1, e2, hlen, hw4, hws, hwu, e3]
      (repeat' (first | exact True.intro | rfl | assumption | omega | apply And.intro))
    rintro ⟨env, st1⟩ ⟨g0, g7, g8⟩
    simp only at g0 g7 g8
    rw [Z0]
    simp only [↓Xp, ↓Xt, Xq, Xc, binP, ofCells, Nat.reduceAdd, Nat.reduceMul, Nat.reduceLT, Nat.reduceEqDiff, reduceIte, Xm, Nat.reduceLeDiff, g7, g8, hwi, hwa, hwb]
    refine Za (fun x => ∃ w, (∀ n, deepL ⟨x.st.sto, n⟩ [w] = some [.fsl m.length (ofBytes m)]) ∧ x.env.get 10 = PV.i .i64 ((k + (p.1 + 4) : Nat) : Int) ∧ x.env.get 11 = w ∧ x.env.get 9 = PV.i .i64 0) ?_ ?_
    · simp only [↓Z0, ↓Xp, ↓Xt, Xq, Xc, binP, ofCells, Nat.reduceAdd, Nat.reduceMul, Nat.reduceLT, Nat.reduceEqDiff, reduceIte, Xm, Nat.reduceLeDiff, g0, g8, hmid]
      rw [callStep_gen (deepL_flat rfl) gU (closed_unseal m 0)]
      obtain ⟨w, st', hr, hd⟩ := recv_unseal ⟨st1.sto, st1.cnt + 128⟩ (st1.cnt + 80) m 0
      rw [hr]
      simp only [↓Z0, ↓Xp, ↓Xt, Xq, Xc, binP, ofCells, Nat.reduceAdd, Nat.reduceMul, Nat.reduceLT, Nat.reduceEqDiff, reduceIte, Xm, Nat.reduceLeDiff]
      exact ⟨w, hd, rfl⟩
    rintro ⟨env, st1⟩ ⟨w, hd, g10, g11, g9⟩
    simp only at hd g10 g11 g9
    refine Za (fun x => ∃ w, (∀ n, deepL ⟨x.st.sto, n⟩ [w] = some [.fsl m.length (ofBytes m)]) ∧ x.env.get 10 = PV.i .i64 ((k + (p.1 + 4) : Nat) : Int) ∧ x.env.get 11 = w) ?_ ?_
    · simp only [↓Z0, ↓Xp, ↓Xt, Xq, Xc, binP, ofCells, Nat.reduceAdd, Nat.reduceMul, Nat.reduceLT, Nat.reduceEqDiff, reduceIte, Xm, Nat.reduceLeDiff, g9, e0, g10, g11]
      exact ⟨w, hd, rfl⟩
    clear g9 g10 g11 hd
    rintro ⟨env, st1⟩ ⟨w, hd, g10, g11⟩
    simp only at hd g10 g11
    have gE : runPure cfg (evFn cfg fuel) 58 [.fsl m.length (ofBytes m)] = some (eventsV m) := by
      rw [runPure_ext hx3]
      unfold gEvents
      simp only [in_fsl]
      rw [if_pos hml]
    unfold eventsV at gE
    cases hE : eventsL m with
    | none =>
      rw [hE] at gE
      simp only at gE
      have c3 : ∀ (n key : Nat), callStep (runPure cfg (evFn cfg fuel) 58) false ⟨st1.sto, n⟩ key [w] = some (.tup [.nsl, .b false], ⟨st1.sto, n⟩) := fun n key => callStep_gen (hd n) gE rfl
      simp only [↓Z0, ↓Xp, ↓Xt, Xq, Xc, binP, ofCells, Nat.reduceAdd, Nat.reduceMul, Nat.reduceLT, Nat.reduceEqDiff, reduceIte, Xm, Nat.reduceLeDiff, g10, g11, c3, unP]
      refine ⟨nofun, _, rfl, ?_⟩
      simp only [tupV, ↓Z0, ↓Xp, ↓Xt, Xq, Xc, binP, ofCells, Nat.reduceAdd, Nat.reduceMul, Nat.reduceLT, Nat.reduceEqDiff, reduceIte]
      exact closeRes_tup rfl
    | some x =>
      obtain ⟨L, b⟩ := x
      rw [hE] at gE
      simp only at gE
      have c3 : ∀ (n key : Nat), callStep (runPure cfg (evFn cfg fuel) 58) false ⟨st1.sto, n⟩ key [w] = some (.tup [.rsl key 5 0 L.length, .b b], (⟨st1.sto, n⟩ : St).put key (some (.cells (evsC L) false))) := fun n key => callStep_gen (hd n) gE (closed_events L b)
      cases b with
      | false =>
        simp only [↓Z0, ↓Xp, ↓Xt, Xq, Xc, binP, ofCells, Nat.reduceAdd, Nat.reduceMul, Nat.reduceLT, Nat.reduceEqDiff, reduceIte, Xm, Nat.reduceLeDiff, g10, g11, c3, unP]
        refine ⟨nofun, _, rfl, ?_⟩
        simp only [tupV, ↓Z0, ↓Xp, ↓Xt, Xq, Xc, binP, ofCells, Nat.reduceAdd, Nat.reduceMul, Nat.reduceLT, Nat.reduceEqDiff, reduceIte]
        exact closeRes_tup rfl
      | true =>
        simp only [↓Z0, ↓Xp, ↓Xt, Xq, Xc, binP, ofCells, Nat.reduceAdd, Nat.reduceMul, Nat.reduceLT, Nat.reduceEqDiff, reduceIte, Xm, Nat.reduceLeDiff, g10, g11, c3, unP]
        refine ⟨nofun, _, rfl, ?_⟩
        simp only [tupV, ↓Z0, ↓Xp, ↓Xt, Xq, Xc, binP, ofCells, Nat.reduceAdd, Nat.reduceMul, Nat.reduceLT, Nat.reduceEqDiff, reduceIte]
        have e5 : p.2.1 + (p.1 : Int) + 4 = ((k + (p.1 + 4) : Nat) : Int) := by omega
        rw [e5]
        exact close_evs2 (b := 0) (St.get_putk _ _ _)
  · rw [if_neg h4] at eU ⊢
    rw [eU] at gU
    have c2 : ∀ (st : St) (key : Nat), callStep (runPure cfg (evFn cfg fuel) 43) false st key [.fsl (p.1 + 4) (ofBytes B)] = some (.tup [.nsl, .i .i64 12], st) := fun st key => callStep_gen (deepL_flat rfl) gU rfl
    have e12 : ((12 : Int) != Int.ofNat 0) = true := rfl
    simp only [putArgs, ↓Z0, ↓Xp, ↓Xt, Xq, Xc, binP, ofCells, Nat.reduceAdd, Nat.reduceMul, Nat.reduceLT, Nat.reduceEqDiff, reduceIte, Xm, Nat.reduceLeDiff, c1, e1, e2, hlen, hw4, hws, hwu, e3, hwi, hwa, hwb, hmid, c2, e12]
    refine ⟨nofun, _, rfl, ?_⟩
    simp only [tupV, ↓Z0, ↓Xp, ↓Xt, Xq, Xc, binP, ofCells, Nat.reduceAdd, Nat.reduceMul, Nat.reduceLT, Nat.reduceEqDiff, reduceIte]
    exact closeRes_tup rfl
def gRead : List PV → Option PV
  | [v, .i .i64 a] => match inL v with
    | some l => if l.length ≤ 140737488355328 then some (readV l a) else none
    | none => none
  | _ => none
end Go.Pe
