/-
  Ev, events, Read, Frame, by the interpreter of plain data. No condition.
-/
import Derived.Test.YtogdkhejfkbnmaaEvtB
set_option linter.unusedVariables false
set_option linter.unusedSimpArgs false
namespace Go.Pe
open Go Go.Am Go.RowKit

structure Ev where
  T : Int
  O : UInt8
  J : Int
  A : Int
  B : Int
  deriving DecidableEq
def Ev.zero : Ev := ⟨0, 0, 0, 0, 0⟩
def evC (e : Ev) : List PV := [.i .i64 e.T, .i .u8 e.O.toNat, .i .i64 e.J, .i .i64 e.A, .i .i64 e.B]
def evsC (l : List Ev) : List PV := l.flatMap evC
theorem evC_len (e : Ev) : (evC e).length = 5 := rfl
theorem evC_one (e : Ev) : (evC e).all PV.one = true := rfl
theorem evsC_len : ∀ l : List Ev, (evsC l).length = l.length * 5
  | [] => rfl
  | e :: r => by
    have : evsC (e :: r) = evC e ++ evsC r := rfl
    rw [this, List.length_append, evsC_len r, evC_len, List.length_cons]
    omega
theorem evsC_app (l : List Ev) (e : Ev) : evsC l ++ evC e = evsC (l ++ [e]) := by simp [evsC]
def getE (l : List UInt8) (at0 : Int) (x : Ev) : Ev × Int × Int :=
  if at0 < 0 ∨ (l.length : Int) < at0 then (.zero, 0, 2)
  else if at0 = l.length then (.zero, 0, 11)
  else
    let s1 := getSt l x.T (at0 + 1, 0)
    let s2 := getSt l x.J s1.2
    let s3 := getSt l x.A s2.2
    let s4 := getSt l x.B s3.2
    if s4.2.2 = 0 then (⟨s1.1, l.getD at0.toNat 0, s2.1, s3.1, s4.1⟩, s4.2.1, 0) else (.zero, 0, s4.2.2)
def getET (p : Ev × Int × Int) : PV := .tup [.agg (evC p.1), .i .i64 p.2.1, .i .i64 p.2.2]
theorem getV_eq (l : List UInt8) (at0 : Int) (x : Ev) : getV l at0 x.T x.J x.A x.B = getET (getE l at0 x) := by
  unfold getV getE
  simp only []
  repeat' split
  all_goals rfl
def readsL (body : List UInt8) : Nat → Int → Ev → List Ev → Option (List Ev × Int)
  | 0, at0, _, acc => some (acc, at0)
  | n + 1, at0, x, acc => if (getE body at0 x).2.2 = 0 then readsL body n (getE body at0 x).2.1 (getE body at0 x).1 (acc ++ [(getE body at0 x).1]) else none
def eventsL (body : List UInt8) : Option (List Ev × Bool) :=
  if (getU body 0).2.2 = 0 ∧ 1 ≤ (getU body 0).1 ∧ (getU body 0).1 ≤ 4096 then
    match readsL body (getU body 0).1 (getU body 0).2.1 .zero [] with
    | some (l, a) => some (l, a == (body.length : Int))
    | none => none
  else none
def eventsV (body : List UInt8) : PV := match eventsL body with
  | some (l, b) => .tup [.osl 5 l.length (evsC l), .b b]
  | none => .tup [.nsl, .b false]
def OutE (st : St) (v : PV) (l : List Ev) : Prop := (v = .nsl ∧ l = []) ∨ ∃ k, v = .rsl k 5 0 l.length ∧ st.get k = some (.cells (evsC l) false) ∧ k < st.cnt
theorem OutE.mono {st st' : St} {v : PV} {l : List Ev} (h : OutE st v l) (hg : ∀ k, k < st.cnt → (∀ a b c, v = .rsl k a b c → st'.get k = st.get k)) (hc : st.cnt ≤ st'.cnt) : OutE st' v l := by
  rcases h with h | ⟨k, h1, h2, h3⟩
  · exact .inl h
  · exact .inr ⟨k, h1, by rw [hg k h3 _ _ _ h1]; exact h2, by omega⟩
theorem app_ev {st : St} {v : PV} {l : List Ev} {e : Ev} (h : OutE st v l) {key : Nat} (hl : (l.length + 1) * 40 ≤ maxBytes) :
    ∃ st', appendP st key 5 40 1 (evC e) v = some (.rsl key 5 0 (l ++ [e]).length, st') ∧ st'.get key = some (.cells (evsC (l ++ [e])) false) ∧ st'.cnt = st.cnt ∧ ∀ j, j ≠ key → (∀ a b c, v ≠ .rsl j a b c) → st'.get j = st.get j := by
  rcases h with ⟨rfl, rfl⟩ | ⟨k, rfl, hk, _⟩
  · refine ⟨st.put key (some (.cells (evC e) false)), ?_, ?_, rfl, fun j hj _ => St.get_put_ne (fun e => hj e.symm)⟩
    · unfold appendP
      rw [if_neg (by omega), if_pos (by simpa using hl)]
      rfl
    · rw [St.get_putk]
      simp [evsC]
  · refine ⟨(st.put k none).put key (some (.cells (evsC (l ++ [e])) false)), ?_, St.get_putk _ _ _, rfl, fun j hj hv => ?_⟩
    · unfold appendP
      simp only [hk, evsC_len, evsC_app]
      rw [if_pos ⟨trivial, trivial, trivial, hl⟩]
      simp
    · rw [St.get_put_ne (fun e => hj e.symm), St.get_put_ne (fun e => hv 5 0 l.length (by rw [e]))]
theorem deep_get (st : St) {v : PV} (hv : v.flat = true) (a : Int) (x : Ev) : deepL st [v, .i .i64 a, .agg (evC x)] = some [v, .i .i64 a, .agg (evC x)] := by
  have e1 : deep st (11 + 1) v = some v := deep_some 11 hv
  have e2 : deep st (11 + 1) (.i .i64 a) = some (.i .i64 a) := rfl
  have e3 : deep st (11 + 1) (.agg (evC x)) = some (.agg (evC x)) := rfl
  show mapO (deep st (11 + 1)) _ = _
  simp only [mapO, e1, e2, e3]
theorem close_evs {st : St} {k : Nat} {l : List Ev} {b : Bool} (hk : st.get k = some (.cells (evsC l) false)) : closeRes st (.tup [.rsl k 5 0 l.length, .b b]) = some (.tup [.osl 5 l.length (evsC l), .b b]) := by
  have hw : whole? st (.rsl k 5 0 l.length) = some (k, 5, l.length, evsC l) := by
    unfold whole?
    simp only [hk, evsC_len]
    rw [if_pos ⟨trivial, trivial, by omega⟩]
  have hfl : (evsC l).all PV.flat = true := by
    rw [List.all_eq_true]
    intro p hp
    simp only [evsC, List.mem_flatMap] at hp
    obtain ⟨e, _, hp⟩ := hp
    simp only [evC, List.mem_cons, List.not_mem_nil, or_false] at hp
    rcases hp with rfl | rfl | rfl | rfl | rfl <;> rfl
  have hf : firstWhole st [.rsl k 5 0 l.length, .b b] = some (0, k, 5, l.length, evsC l) := by
    unfold firstWhole
    rw [hw]
  unfold closeRes
  simp only [hf, keysL_flat hfl, deepL_flat hfl]
  rfl
set_option maxHeartbeats 8000000 in
theorem events_ev {cfg : Cfg} (hf : cfg.fn 58 = some m58) (hx1 : cfg.ext 45 = some gGetU) (hx2 : cfg.ext 83 = some gGetE) {fuel : Nat} (hfu : 4100 ≤ fuel) {v : PV} {l : List UInt8} (hv : inL v = some l) (hll : l.length ≤ 140737488355328) :
    ∃ r st', evFn cfg (fuel + 1) 58 [v] { sto := .leaf, cnt := 1 } = some (r, st') ∧ closeRes st' r = some (eventsV l) := by
  refine evFn_W hf ?_
  unfold m58
  have hlen := in_len hv
  have hlt := getU_lt l 0
  have c1 : ∀ (st : St) (key : Nat), callStep (runPure cfg (evFn cfg fuel) 45) false st key [v, .i .i64 (.ofNat 0)] = some (.tup [.i .u64 ((getU l 0).1 : Int), .i .i64 (getU l 0).2.1, .i .i64 (getU l 0).2.2], st) := by
    intro st key
    refine callStep_flat (by simp only [List.all_cons, in_flat hv, List.all_nil, Bool.and_self, Bool.true_and]; rfl) ?_ rfl
    rw [runPure_ext hx1]
    unfold gGetU
    simp only [hv]
    rw [if_pos hll]
    rfl
  have c2 : ∀ (st : St) (key : Nat) (a : Int) (x : Ev), callStep (runPure cfg (evFn cfg fuel) 83) false st key [v, .i .i64 a, .agg (evC x)] = some (.tup [.agg (evC (getE l a x).1), .i .i64 (getE l a x).2.1, .i .i64 (getE l a x).2.2], st) := by
    intro st key a x
    refine call_deepb (deep_get st (in_flat hv) a x) ?_ rfl rfl
    rw [runPure_ext hx2]
    unfold gGetE evC
    simp only [hv]
    rw [if_pos hll, getV_eq]
    rfl
  unfold eventsV eventsL
  generalize getU l 0 = p at *
  by_cases h1 : p.2.2 ≠ 0
  · have e1 : (p.2.2 != Int.ofNat 0) = true := by simpa using h1
    rw [if_neg (fun q => h1 q.1)]
    simp only [putArgs, ↓Z0, ↓Xp, ↓Xt, Xq, Xc, binP, ofCells, Nat.reduceAdd, Nat.reduceMul, Nat.reduceLT, Nat.reduceEqDiff, reduceIte, Xm, Nat.reduceLeDiff, c1, e1]
    refine ⟨nofun, _, rfl, ?_⟩
    simp only [tupV, ↓Z0, ↓Xp, ↓Xt, Xq, Xc, binP, ofCells, Nat.reduceAdd, Nat.reduceMul, Nat.reduceLT, Nat.reduceEqDiff, reduceIte]
    exact closeRes_tup rfl
  have e1 : (p.2.2 != Int.ofNat 0) = false := by simpa using h1
  have h1' : p.2.2 = 0 := by simpa using h1
  by_cases h2 : p.1 < 1
  · have e2 : (p.1 : Int) < Int.ofNat 1 := by show (p.1 : Int) < 1; omega
    rw [if_neg (fun q => by omega)]
    simp only [putArgs, ↓Z0, ↓Xp, ↓Xt, Xq, Xc, binP, ofCells, Nat.reduceAdd, Nat.reduceMul, Nat.reduceLT, Nat.reduceEqDiff, reduceIte, Xm, Nat.reduceLeDiff, c1, e1, e2]
    refine ⟨nofun, _, rfl, ?_⟩
    simp only [tupV, ↓Z0, ↓Xp, ↓Xt, Xq, Xc, binP, ofCells, Nat.reduceAdd, Nat.reduceMul, Nat.reduceLT, Nat.reduceEqDiff, reduceIte]
    exact closeRes_tup rfl
  have e2 : ¬ (p.1 : Int) < Int.ofNat 1 := by show ¬ (p.1 : Int) < 1; omega
  by_cases h3 : 4096 < p.1
  · have e3 : (p.1 : Int) > Int.ofNat 4096 := by show (p.1 : Int) > 4096; omega
    rw [if_neg (fun q => by omega)]
    simp only [putArgs, ↓Z0, ↓Xp, ↓Xt, Xq, Xc, binP, ofCells, Nat.reduceAdd, Nat.reduceMul, Nat.reduceLT, Nat.reduceEqDiff, reduceIte, Xm, Nat.reduceLeDiff, c1, e1, e2, e3]
    refine ⟨nofun, _, rfl, ?_⟩
    simp only [tupV, ↓Z0, ↓Xp, ↓Xt, Xq, Xc, binP, ofCells, Nat.reduceAdd, Nat.reduceMul, Nat.reduceLT, Nat.reduceEqDiff, reduceIte]
    exact closeRes_tup rfl
  have e3 : ¬ (p.1 : Int) > Int.ofNat 4096 := by show ¬ (p.1 : Int) > 4096; omega
  rw [if_pos ⟨h1', by omega, by omega⟩]
  -- up to the loop
  refine Za (fun x => x.env.get 0 = v ∧ x.st = ⟨.leaf, 17⟩) ?_ ?_
  · simp only [putArgs, ↓Z0, ↓Xp, ↓Xt, Xq, Xc, binP, ofCells, Nat.reduceAdd, Nat.reduceMul, Nat.reduceLT, Nat.reduceEqDiff, reduceIte]
    (repeat' (first | exact True.intro | rfl | assumption | omega | apply And.intro))
  rintro ⟨env, st1⟩ ⟨g0, rfl⟩
  simp only at g0
  refine Za (fun x => x.env.get 0 = v ∧ x.env.get 4 = PV.i .u64 (p.1 : Int) ∧ x.env.get 5 = PV.i .i64 p.2.1 ∧ x.env.get 6 = PV.i .i64 p.2.2 ∧ ∃ c, x.st = ⟨.leaf, c⟩) ?_ ?_
  · simp only [↓Z0, ↓Xp, ↓Xt, Xq, Xc, binP, ofCells, Nat.reduceAdd, Nat.reduceMul, Nat.reduceLT, Nat.reduceEqDiff, reduceIte, Xm, Nat.reduceLeDiff, g0, c1]
    exact ⟨_, rfl⟩
  rintro ⟨env, st1⟩ ⟨g0, g4, g5, g6, c, rfl⟩
  simp only at g0 g4 g5 g6
  refine Za (fun x => x.env.get 0 = v ∧ x.env.get 4 = PV.i .u64 (p.1 : Int) ∧ x.env.get 5 = PV.i .i64 p.2.1 ∧ ∃ c, x.st = ⟨.leaf, c⟩) ?_ ?_
  · simp only [↓Z0, ↓Xp, ↓Xt, Xq, Xc, binP, ofCells, Nat.reduceAdd, Nat.reduceMul, Nat.reduceLT, Nat.reduceEqDiff, reduceIte, Xm, Nat.reduceLeDiff, g0, g4, g5, g6, e1, e2, e3]
    exact ⟨_, rfl⟩
  clear g0 g4 g5 g6
  rintro ⟨env, st1⟩ ⟨g0, g4, g5, c, rfl⟩
  simp only at g0 g4 g5
  generalize hRes : readsL l p.1 p.2.1 .zero [] = Res
  rw [Z0]
  simp only [↓Xp, ↓Xt, Xq, Xc, binP, ofCells, Nat.reduceAdd, Nat.reduceMul, Nat.reduceLT, Nat.reduceEqDiff, reduceIte]
  rw [Z0]
  simp only [↓Xp, ↓Xt, Xq, Xc, binP, ofCells, Nat.reduceAdd, Nat.reduceMul, Nat.reduceLT, Nat.reduceEqDiff, reduceIte, Xm, Nat.reduceLeDiff]
  have fin : ∀ (x : Now), x.env.get 0 = x.env.get 0 → True := fun _ _ => trivial
  rw [Z0]
  refine WC.mono (Q := fun e x => (e = .nrm ∧ ∃ (L : List Ev) (a : Int) (w : PV), Res = some (L, a) ∧ x.env.get 0 = v ∧ x.env.get 5 = PV.i .i64 a ∧ x.env.get 7 = w ∧ OutE x.st w L ∧ L.length = p.1) ∨ (e = .ret ∧ Res = none ∧ x.env.get 2 = .nsl ∧ x.env.get 3 = .b false)) ?_ ?_
  · simp only [↓Z0, ↓Xp, ↓Xt, Xq, Xc, binP, ofCells, Nat.reduceAdd, Nat.reduceMul, Nat.reduceLT, Nat.reduceEqDiff, reduceIte, Xm, Nat.reduceLeDiff, g0, g4, g5]
    refine Z9 (k := p.1 - 0) (fun d x => ∃ (i : Nat) (a : Int) (X : Ev) (acc : List Ev) (w : PV) (k8 : Nat), i ≤ p.1 ∧ d = p.1 - i ∧ readsL l (p.1 - i) a X acc = Res ∧ acc.length = i ∧ x.env.get 0 = v ∧ x.env.get 5 = .i .i64 a ∧ x.env.get 7 = w ∧ OutE x.st w acc ∧ x.env.get 8 = .ptr k8 0 ∧ x.st.get k8 = some (.cells (evC X) false) ∧ k8 < x.st.cnt ∧ (∀ q b c, w ≠ .rsl k8 q b c) ∧ x.env.get 25 = .i .u64 (p.1 : Int) ∧ x.env.get 26 = .i .u64 (i : Int)) ?_ ?_ (by omega)
    · rintro d ⟨env, ⟨sto, c⟩⟩ ⟨i, a, X, acc, w, k8, hi, rfl, hres, hacc, g0, g5, g7, ho, g8, hk8, hk8c, hw8, g25, g26⟩
      simp only at g0 g5 g7 ho g8 hk8 hk8c g25 g26
      have hk8' : ∀ n, St.get ⟨sto, n⟩ k8 = some (.cells (evC X) false) := fun _ => hk8
      by_cases hlti0 : i < p.1
      · have hlti : ((i : Nat) : Int) < (p.1 : Int) := by omega
        have hn : p.1 - i = (p.1 - (i + 1)) + 1 := by omega
        rw [hn] at hres
        have er : readsL l (p.1 - (i + 1) + 1) a X acc = if (getE l a X).2.2 = 0 then readsL l (p.1 - (i + 1)) (getE l a X).2.1 (getE l a X).1 (acc ++ [(getE l a X).1]) else none := rfl
        rw [er] at hres
        have c2' := fun st key => c2 st key a X
        have hcut : cut? (evC X) 0 5 = some (evC X) := rfl
        have hwi : IntKind.u64.wrap ((i : Int) + Int.ofNat 1) = ((i + 1 : Nat) : Int) := by
          rw [wr_u64 _ ⟨by show (0 : Int) ≤ (i : Int) + 1; omega, by show (i : Int) + 1 < _; omega⟩]; rfl
        generalize getE l a X = g at *
        have hst : ∀ n, storeP ⟨sto, n⟩ 5 (.ptr k8 0) (.agg (evC g.1)) = some ((⟨sto, n⟩ : St).put k8 (some (.cells (evC g.1) false))) := fun n => store_whole (v := .agg (evC g.1)) (hk8' n) rfl rfl rfl
        have hld : ∀ n, loadP ⟨sto, n⟩ 5 (.ptr k8 0) = some (evC X) := fun n => load_whole (hk8' n) rfl
        by_cases hok : g.2.2 = 0
        · rw [if_pos hok] at hres
          have eo : (g.2.2 != Int.ofNat 0) = false := by rw [hok]; rfl
          simp only [↓Z0, ↓Xp, ↓Xt, Xq, Xc, binP, ofCells, Nat.reduceAdd, Nat.reduceMul, Nat.reduceLT, Nat.reduceEqDiff, reduceIte, g0, g5, g7, g8, g25, g26, hlti, hld, c2', List.getElem?_cons_zero, List.getElem?_cons_succ, hst, eo]
          obtain ⟨S2, hS2⟩ : ∃ S, (⟨sto, c + 96⟩ : St).put k8 (some (.cells (evC g.1) false)) = S := ⟨_, rfl⟩
          have q8 : S2.get k8 = some (.cells (evC g.1) false) := by rw [← hS2]; exact St.get_putk _ _ _
          have qc : S2.cnt = c + 96 := by rw [← hS2]; rfl
          have qf : ∀ j, j ≠ k8 → S2.get j = St.get ⟨sto, c⟩ j := by intro j hj; rw [← hS2, St.get_put_ne (fun e => hj e.symm)]; rfl
          simp only [hS2]
          have hld2 : loadP ⟨S2.sto, S2.cnt + 56⟩ 5 (.ptr k8 0) = some (evC g.1) := load_whole (st := ⟨S2.sto, S2.cnt + 56⟩) q8 rfl
          have hfill : fillP [.i .i64 (.ofNat 0), .i .u8 (.ofNat 0), .i .i64 (.ofNat 0), .i .i64 (.ofNat 0), .i .i64 (.ofNat 0)] [(0, 5, .agg (evC g.1))] = some (evC g.1) := rfl
          obtain ⟨S3, hS3⟩ : ∃ S, (⟨S2.sto, S2.cnt + 56⟩ : St).put (S2.cnt + 32) (some (.cells (evC g.1) false)) = S := ⟨_, rfl⟩
          have r3 : S3.get (S2.cnt + 32) = some (.cells (evC g.1) false) := by rw [← hS3]; exact St.get_putk _ _ _
          have rc : S3.cnt = c + 152 := by rw [← hS3]; show S2.cnt + 56 = _; omega
          have rf : ∀ j, j ≠ k8 → j ≠ S2.cnt + 32 → S3.get j = St.get ⟨sto, c⟩ j := by intro j hj hj2; rw [← hS3, St.get_put_ne (fun e => hj2 e.symm)]; exact qf j hj
          have r8 : S3.get k8 = some (.cells (evC g.1) false) := by rw [← hS3, St.get_put_ne (by omega)]; exact q8
          have hcl : cellsOf S3 5 (.rsl (S2.cnt + 32) 5 0 1) = some (1, evC g.1) := by
            unfold cellsOf
            simp only [r3]
            rfl
          have ho3 : OutE S3 w acc := by
            exact ho.mono (fun q hq a b c h => rf q (fun e => hw8 a b c (by rw [← e]; exact h)) (by simp only at hq; omega)) (by show c ≤ S3.cnt; omega)
          obtain ⟨S4, ha, hb, hc4, hf4⟩ := app_ev (st := S3) (v := w) (l := acc) (e := g.1) ho3 (key := S2.cnt + 40) (by unfold maxBytes; omega)
          simp only [↓Z0, ↓Xp, ↓Xt, Xq, Xc, binP, ofCells, Nat.reduceAdd, Nat.reduceMul, Nat.reduceLT, Nat.reduceEqDiff, reduceIte, hld2, hfill, evC_len, hS3, hcl, evC_one, ha, hwi]
          refine ⟨p.1 - (i + 1), by omega, i + 1, g.2.1, g.1, acc ++ [g.1], .rsl (S2.cnt + 40) 5 0 (acc ++ [g.1]).length, k8, by omega, rfl, hres, by simp [hacc], rfl, rfl, .inr ⟨S2.cnt + 40, rfl, hb, ?_⟩, rfl, ?_, by omega, ?_, rfl⟩
          · show S2.cnt + 40 < S4.cnt + 16
            omega
          · show S4.get k8 = _
            rw [hf4 k8 (by omega) hw8]; exact r8
          · intro q b c h
            injection h with h5
            omega
        · rw [if_neg hok] at hres
          have eo : (g.2.2 != Int.ofNat 0) = true := by simpa using hok
          simp only [↓Z0, ↓Xp, ↓Xt, Xq, Xc, binP, ofCells, Nat.reduceAdd, Nat.reduceMul, Nat.reduceLT, Nat.reduceEqDiff, reduceIte, g0, g5, g7, g8, g25, g26, hlti, hld, c2', List.getElem?_cons_zero, List.getElem?_cons_succ, hst, eo]
          right
          (repeat' (first | exact True.intro | rfl | assumption | omega | apply And.intro))
          exact hres.symm
      · have hie : i = p.1 := by omega
        subst hie
        rw [Nat.sub_self] at hres
        have hres' : some (acc, a) = Res := hres
        simp only [↓Z0, ↓Xp, ↓Xt, Xq, Xc, binP, ofCells, Nat.reduceAdd, Nat.reduceMul, Nat.reduceLT, Nat.reduceEqDiff, reduceIte, g0, g5, g7, g8, g25, g26, Int.lt_irrefl]
        left
        have hA1 := hres'.symm
        have hA2 : OutE ⟨sto, c + 8⟩ w acc := ho.mono (fun _ _ _ _ _ _ => rfl) (Nat.le_add_right _ _)
        refine ⟨acc, a, w, ?_⟩
        (repeat' (first | exact True.intro | rfl | assumption | omega | apply And.intro))
    · refine ⟨0, p.2.1, .zero, [], .nsl, c + 8, Nat.zero_le _, rfl, hRes, rfl, by simp [Env.get_put, g0], by simp [Env.get_put, g5], by simp [Env.get_put], .inl ⟨rfl, rfl⟩, by simp [Env.get_put], ?_, ?_, (fun _ _ _ h => nomatch h), by simp [Env.get_put], by simp [Env.get_put]⟩
      · show (St.put ⟨.leaf, c + 16⟩ (c + 8) _).get (c + 8) = _
        rw [St.get_putk]; rfl
      · show c + 8 < c + 32
        omega
  · rintro e ⟨env, st1⟩ h
    rcases h with ⟨rfl, L, a, w, rfl, g0, g5, g7, ho, hL⟩ | ⟨rfl, rfl, g2, g3⟩
    · simp only at g0 g5 g7 ho
      rcases ho with ⟨_, h0⟩ | ⟨k, rfl, hk, _⟩
      · rw [h0] at hL; simp at hL; omega
      · simp only [Z0v_, ↓Z0, ↓Xp, ↓Xt, Xq, Xc, binP, ofCells, Nat.reduceAdd, Nat.reduceMul, Nat.reduceLT, Nat.reduceEqDiff, reduceIte, g0, g5, g7, hlen]
        refine ⟨nofun, _, rfl, ?_⟩
        simp only [tupV, ↓Z0, ↓Xp, ↓Xt, Xq, Xc, binP, ofCells, Nat.reduceAdd, Nat.reduceMul, Nat.reduceLT, Nat.reduceEqDiff, reduceIte]
        exact close_evs hk
    · simp only at g2 g3
      simp only [Z0x_]
      refine ⟨nofun, [.nsl, .b false], ?_, closeRes_tup rfl⟩
      simp [mapO, resP, g2, g3]
end Go.Pe
set_option linter.unusedVariables false
set_option linter.unusedSimpArgs false
namespace Go.Pe
open Go Go.Am Go.RowKit

def gEvents : List PV → Option PV
  | [v] => match inL v with
    | some l => if l.length ≤ 140737488355328 then some (eventsV l) else none
    | none => none
  | _ => none
def readL (b : List UInt8) (at0 : Int) : Sum (List Ev × Int) Int :=
  let g := getU b at0
  if g.2.2 ≠ 0 then .inr g.2.2
  else if 262144 < g.1 then .inr 3
  else if (b.length : Int) - g.2.1 < g.1 + 4 then .inr 11
  else
    let m := (b.drop g.2.1.toNat).take g.1
    if sealB m = (b.drop g.2.1.toNat).take (g.1 + 4) then
      match eventsL m with
      | some (l, true) => .inl (l, g.2.1 + g.1 + 4)
      | _ => .inr 10
    else .inr 12
def readV (b : List UInt8) (at0 : Int) : PV := match readL b at0 with
  | .inl (l, a) => .tup [.osl 5 l.length (evsC l), .i .i64 a, .i .i64 0]
  | .inr e => .tup [.nsl, .i .i64 0, .i .i64 e]
theorem closed_evs (f : Nat) (l : List Ev) : (evsC l).all (PV.closed (f + 1)) = true := by
  rw [List.all_eq_true]
  intro p hp
  simp only [evsC, List.mem_flatMap] at hp
  obtain ⟨e, _, hp⟩ := hp
  simp only [evC, List.mem_cons, List.not_mem_nil, or_false] at hp
  rcases hp with rfl | rfl | rfl | rfl | rfl <;> rfl
theorem close_evs2 {st : St} {k : Nat} {l : List Ev} {a b : Int} (hk : st.get k = some (.cells (evsC l) false)) : closeRes st (.tup [.rsl k 5 0 l.length, .i .i64 a, .i .i64 b]) = some (.tup [.osl 5 l.length (evsC l), .i .i64 a, .i .i64 b]) := by
  have hw : whole? st (.rsl k 5 0 l.length) = some (k, 5, l.length, evsC l) := by
    unfold whole?
    simp only [hk, evsC_len]
    rw [if_pos ⟨trivial, trivial, by omega⟩]
  have hfl : (evsC l).all PV.flat = true := by
    rw [List.all_eq_true]
    intro p hp
    simp only [evsC, List.mem_flatMap] at hp
    obtain ⟨e, _, hp⟩ := hp
    simp only [evC, List.mem_cons, List.not_mem_nil, or_false] at hp
    rcases hp with rfl | rfl | rfl | rfl | rfl <;> rfl
  have hf : firstWhole st [.rsl k 5 0 l.length, .i .i64 a, .i .i64 b] = some (0, k, 5, l.length, evsC l) := by
    unfold firstWhole
    rw [hw]
  unfold closeRes
  simp only [hf, keysL_flat hfl, deepL_flat hfl]
  rfl
theorem recv_unseal (st : St) (key : Nat) (m : List UInt8) (e : Int) : ∃ w st', recvRes st key (.tup [outV m, .i .i64 e]) = some (.tup [w, .i .i64 e], st') ∧ ∀ n, deepL ⟨st'.sto, n⟩ [w] = some [.fsl m.length (ofBytes m)] := by
  unfold outV
  by_cases h : m = []
  · rw [if_pos h, h]
    exact ⟨.fsl 0 [], st, rfl, fun _ => rfl⟩
  · rw [if_neg h]
    refine ⟨.rsl key 1 0 m.length, st.put key (some (.cells (ofBytes m) false)), rfl, fun n => ?_⟩
    have := deep_bytesF (st := ⟨(st.put key (some (.cells (ofBytes m) false))).sto, n⟩) 10 (St.get_putk st key (some (.cells (ofBytes m) false)))
    show mapO (deep _ (11 + 1)) _ = _
    simp only [mapO, this]
theorem closed_unseal (m : List UInt8) (e : Int) : PV.closedB (.tup [outV m, .i .i64 e]) = true := by
  unfold outV
  by_cases h : m = []
  · rw [if_pos h]; rfl
  · rw [if_neg h]
    show PV.closed (11 + 1) _ = true
    unfold PV.closed
    simp only [List.all_cons, List.all_nil, Bool.and_true]
    have h1 : PV.closed 11 (.osl 1 m.length (ofBytes m)) = true := by
      show PV.closed (10 + 1) _ = true
      unfold PV.closed
      exact closed_ofBytes 9 m
    rw [h1]; rfl
theorem closed_events (L : List Ev) (x : Bool) : PV.closedB (.tup [.osl 5 L.length (evsC L), .b x]) = true := by
  show PV.closed (11 + 1) _ = true
  unfold PV.closed
  simp only [List.all_cons, List.all_nil, Bool.and_true]
  have h1 : PV.closed 11 (.osl 5 L.length (evsC L)) = true := by
    show PV.closed (10 + 1) _ = true
    unfold PV.closed
    exact closed_evs 9 L
  rw [h1]; rfl
set_option maxHeartbeats 8000000 in
theorem read_ev {cfg : Cfg} (hf : cfg.fn 38 = some m38) (hx1 : cfg.ext 45 = some gGetU) (hx2 : cfg.ext 43 = some gUnseal) (hx3 : cfg.ext 58 = some gEvents) {fuel : Nat} {v : PV} {l : List UInt8} {at0 : Int} (hv : inL v = some l) (hll : l.length ≤ 140737488355328) :
    ∃ r st', evFn cfg (fuel + 1) 38 [v, .i .i64 at0] { sto := .leaf, cnt := 1 } = some (r, st') ∧ closeRes st' r = some (readV l at0) := by
  refine evFn_W hf ?_
  unfold m38
  have hlen := in_len hv
  have hlt := getU_lt l at0
  have hok := @getU_ok l at0
  have c1 : ∀ (st : St) (key : Nat), callStep (runPure cfg (evFn cfg fuel) 45) false st key [v, .i .i64 at0] = some (.tup [.i .u64 ((getU l at0).1 : Int), .i .i64 (getU l at0).2.1, .i .i64 (getU l at0).2.2], st) := by
    intro st key
    refine callStep_flat (by simp only [List.all_cons, in_flat hv, List.all_nil, Bool.and_self, Bool.true_and]; rfl) ?_ rfl
    rw [runPure_ext hx1]
    unfold gGetU
    simp only [hv]
    rw [if_pos hll]
    rfl
  unfold readV readL
  simp only []
  generalize getU l at0 = p at *
  by_cases h1 : p.2.2 ≠ 0
  · have e1 : (p.2.2 != Int.ofNat 0) = true := by simpa using h1
    rw [if_pos h1]
    simp only [putArgs, ↓Z0, ↓Xp, ↓Xt, Xq, Xc, binP, ofCells, Nat.reduceAdd, Nat.reduceMul, Nat.reduceLT, Nat.reduceEqDiff, reduceIte, Xm, Nat.reduceLeDiff, c1, e1]
    refine ⟨nofun, _, rfl, ?_⟩
    simp only [tupV, ↓Z0, ↓Xp, ↓Xt, Xq, Xc, binP, ofCells, Nat.reduceAdd, Nat.reduceMul, Nat.reduceLT, Nat.reduceEqDiff, reduceIte]
    exact closeRes_tup rfl
  have e1 : (p.2.2 != Int.ofNat 0) = false := by simpa using h1
  have h1' : p.2.2 = 0 := by simpa using h1
  rw [if_neg h1]
  by_cases h2 : 262144 < p.1
  · have e2 : (p.1 : Int) > Int.ofNat 262144 := by show (p.1 : Int) > 262144; omega
    rw [if_pos h2]
    simp only [putArgs, ↓Z0, ↓Xp, ↓Xt, Xq, Xc, binP, ofCells, Nat.reduceAdd, Nat.reduceMul, Nat.reduceLT, Nat.reduceEqDiff, reduceIte, Xm, Nat.reduceLeDiff, c1, e1, e2]
    refine ⟨nofun, _, rfl, ?_⟩
    simp only [tupV, ↓Z0, ↓Xp, ↓Xt, Xq, Xc, binP, ofCells, Nat.reduceAdd, Nat.reduceMul, Nat.reduceLT, Nat.reduceEqDiff, reduceIte]
    exact closeRes_tup rfl
  have e2 : ¬ (p.1 : Int) > Int.ofNat 262144 := by show ¬ (p.1 : Int) > 262144; omega
  rw [if_neg h2]
  obtain ⟨ha0, hal, rest, hrest, hnx, hnl⟩ := hok h1'
  obtain ⟨k, hk⟩ : ∃ k : Nat, p.2.1 = k := ⟨p.2.1.toNat, by omega⟩
  have hkl : k ≤ l.length := by omega
  simp only [hk] at c1
  have hw4 : IntKind.u64.wrap ((p.1 : Int) + Int.ofNat 4) = ((p.1 + 4 : Nat) : Int) := by
    rw [wr_u64 _ ⟨by show (0 : Int) ≤ (p.1 : Int) + 4; omega, by show (p.1 : Int) + 4 < _; omega⟩]; rfl
  have hws : IntKind.i64.wrap ((l.length : Int) - (k : Int)) = ((l.length - k : Nat) : Int) := by rw [wr_i64 _ (by omega)]; omega
  have hwu : IntKind.u64.wrap ((l.length - k : Nat) : Int) = ((l.length - k : Nat) : Int) := wr_u64 _ ⟨by omega, by omega⟩
  by_cases h3 : (l.length : Int) - p.2.1 < p.1 + 4
  · have e3 : ((p.1 + 4 : Nat) : Int) > ((l.length - k : Nat) : Int) := by omega
    rw [if_pos h3]
    simp only [putArgs, ↓Z0, ↓Xp, ↓Xt, Xq, Xc, binP, ofCells, Nat.reduceAdd, Nat.reduceMul, Nat.reduceLT, Nat.reduceEqDiff, reduceIte, Xm, Nat.reduceLeDiff, c1, e1, e2, hlen, hw4, hws, hwu, e3]
    refine ⟨nofun, _, rfl, ?_⟩
    simp only [tupV, ↓Z0, ↓Xp, ↓Xt, Xq, Xc, binP, ofCells, Nat.reduceAdd, Nat.reduceMul, Nat.reduceLT, Nat.reduceEqDiff, reduceIte]
    exact closeRes_tup rfl
  have e3 : ¬ ((p.1 + 4 : Nat) : Int) > ((l.length - k : Nat) : Int) := by omega
  rw [if_neg h3]
  have hne : l ≠ [] := by intro e; rw [e] at hkl h3; simp at hkl h3; omega
  have hwi : IntKind.i64.wrap (p.1 : Int) = (p.1 : Int) := wr_i64 _ ⟨by omega, by omega⟩
  have hwa : IntKind.i64.wrap ((k : Int) + (p.1 : Int)) = ((k + p.1 : Nat) : Int) := by rw [wr_i64 _ (by omega)]; omega
  have hwb : IntKind.i64.wrap (((k + p.1 : Nat) : Int) + Int.ofNat 4) = ((k + (p.1 + 4) : Nat) : Int) := by
    rw [wr_i64 _ ⟨by show _ ≤ ((k + p.1 : Nat) : Int) + 4; omega, by show ((k + p.1 : Nat) : Int) + 4 < _; omega⟩]
    show ((k + p.1 : Nat) : Int) + 4 = _
    omega
  have hmid := mid_in hv (a := k) (n := p.1 + 4) (by omega) hne
  have hkt : p.2.1.toNat = k := by omega
  rw [hkt]
  have hB : ((l.drop k).take (p.1 + 4)).length = p.1 + 4 := by simp; omega
  have hBt : ((l.drop k).take (p.1 + 4)).take p.1 = (l.drop k).take p.1 := by rw [List.take_take]; congr 1; omega
  have hBin : inL (.fsl (p.1 + 4) (ofBytes ((l.drop k).take (p.1 + 4)))) = some ((l.drop k).take (p.1 + 4)) := by
    have := in_fsl ((l.drop k).take (p.1 + 4))
    rwa [hB] at this
  generalize (l.drop k).take (p.1 + 4) = B at *
  rw [← hBt]
  have eU : unsealV B = if sealB (B.take p.1) = B then .tup [outV (B.take p.1), .i .i64 0] else .tup [.nsl, .i .i64 12] := by
    unfold unsealV
    rw [if_neg (by omega), hB, Nat.add_sub_cancel]
  have hml : (B.take p.1).length ≤ 140737488355328 := by simp; omega
  generalize B.take p.1 = m at *
  have gU : runPure cfg (evFn cfg fuel) 43 [.fsl (p.1 + 4) (ofBytes B)] = some (unsealV B) := by
    rw [runPure_ext hx2]
    unfold gUnseal
    simp only [hBin]
    rw [if_pos (by omega)]
  by_cases h4 : sealB m = B
  · rw [if_pos h4] at eU ⊢
    rw [eU] at gU
    have e0 : ((0 : Int) != Int.ofNat 0) = false := rfl
    rw [Z0]
    simp only [putArgs, ↓Xp, ↓Xt, Xq, Xc, binP, ofCells, Nat.reduceAdd, Nat.reduceMul, Nat.reduceLT, Nat.reduceEqDiff, reduceIte]
    rw [Z0]
    simp only [↓Xp, ↓Xt, Xq, Xc, binP, ofCells, Nat.reduceAdd, Nat.reduceMul, Nat.reduceLT, Nat.reduceEqDiff, reduceIte, Xm, Nat.reduceLeDiff, c1]
    refine Za (fun x => x.env.get 0 = v ∧ x.env.get 7 = PV.i .u64 (p.1 : Int) ∧ x.env.get 8 = PV.i .i64 (k : Int)) ?_ ?_
    · simp only [↓Z0, ↓Xp, ↓Xt, Xq, Xc, binP, ofCells, Nat.reduceAdd, Nat.reduceMul, Nat.reduceLT, Nat.reduceEqDiff, reduceIte, Xm, Nat.reduceLeDiff, e1, e2, hlen, hw4, hws, hwu, e3]
      (repeat' (first | exact True.intro | rfl | assumption | omega | apply And.intro))
    rintro ⟨env, st1⟩ ⟨g0, g7, g8⟩
    simp only at g0 g7 g8
    rw [Z0]
    simp only [↓Xp, ↓Xt, Xq, Xc, binP, ofCells, Nat.reduceAdd, Nat.reduceMul, Nat.reduceLT, Nat.reduceEqDiff, reduceIte, Xm, Nat.reduceLeDiff, g7, g8, hwi, hwa, hwb]
    refine Za (fun x => ∃ w, (∀ n, deepL ⟨x.st.sto, n⟩ [w] = some [.fsl m.length (ofBytes m)]) ∧ x.env.get 10 = PV.i .i64 ((k + (p.1 + 4) : Nat) : Int) ∧ x.env.get 11 = w ∧ x.env.get 9 = PV.i .i64 0) ?_ ?_
    · simp only [↓Z0, ↓Xp, ↓Xt, Xq, Xc, binP, ofCells, Nat.reduceAdd, Nat.reduceMul, Nat.reduceLT, Nat.reduceEqDiff, reduceIte, Xm, Nat.reduceLeDiff, g0, g8, hmid]
      rw [callStep_gen (deepL_flat rfl) gU (closed_unseal m 0)]
      obtain ⟨w, st', hr, hd⟩ := recv_unseal ⟨st1.sto, st1.cnt + 128⟩ (st1.cnt + 80) m 0
      rw [hr]
      simp only [↓Z0, ↓Xp, ↓Xt, Xq, Xc, binP, ofCells, Nat.reduceAdd, Nat.reduceMul, Nat.reduceLT, Nat.reduceEqDiff, reduceIte, Xm, Nat.reduceLeDiff]
      exact ⟨w, hd, rfl⟩
    rintro ⟨env, st1⟩ ⟨w, hd, g10, g11, g9⟩
    simp only at hd g10 g11 g9
    refine Za (fun x => ∃ w, (∀ n, deepL ⟨x.st.sto, n⟩ [w] = some [.fsl m.length (ofBytes m)]) ∧ x.env.get 10 = PV.i .i64 ((k + (p.1 + 4) : Nat) : Int) ∧ x.env.get 11 = w) ?_ ?_
    · simp only [↓Z0, ↓Xp, ↓Xt, Xq, Xc, binP, ofCells, Nat.reduceAdd, Nat.reduceMul, Nat.reduceLT, Nat.reduceEqDiff, reduceIte, Xm, Nat.reduceLeDiff, g9, e0, g10, g11]
      exact ⟨w, hd, rfl⟩
    clear g9 g10 g11 hd
    rintro ⟨env, st1⟩ ⟨w, hd, g10, g11⟩
    simp only at hd g10 g11
    have gE : runPure cfg (evFn cfg fuel) 58 [.fsl m.length (ofBytes m)] = some (eventsV m) := by
      rw [runPure_ext hx3]
      unfold gEvents
      simp only [in_fsl]
      rw [if_pos hml]
    unfold eventsV at gE
    cases hE : eventsL m with
    | none =>
      rw [hE] at gE
      simp only at gE
      have c3 : ∀ (n key : Nat), callStep (runPure cfg (evFn cfg fuel) 58) false ⟨st1.sto, n⟩ key [w] = some (.tup [.nsl, .b false], ⟨st1.sto, n⟩) := fun n key => callStep_gen (hd n) gE rfl
      simp only [↓Z0, ↓Xp, ↓Xt, Xq, Xc, binP, ofCells, Nat.reduceAdd, Nat.reduceMul, Nat.reduceLT, Nat.reduceEqDiff, reduceIte, Xm, Nat.reduceLeDiff, g10, g11, c3, unP]
      refine ⟨nofun, _, rfl, ?_⟩
      simp only [tupV, ↓Z0, ↓Xp, ↓Xt, Xq, Xc, binP, ofCells, Nat.reduceAdd, Nat.reduceMul, Nat.reduceLT, Nat.reduceEqDiff, reduceIte]
      exact closeRes_tup rfl
    | some x =>
      obtain ⟨L, b⟩ := x
      rw [hE] at gE
      simp only at gE
      have c3 : ∀ (n key : Nat), callStep (runPure cfg (evFn cfg fuel) 58) false ⟨st1.sto, n⟩ key [w] = some (.tup [.rsl key 5 0 L.length, .b b], (⟨st1.sto, n⟩ : St).put key (some (.cells (evsC L) false))) := fun n key => callStep_gen (hd n) gE (closed_events L b)
      cases b with
      | false =>
        simp only [↓Z0, ↓Xp, ↓Xt, Xq, Xc, binP, ofCells, Nat.reduceAdd, Nat.reduceMul, Nat.reduceLT, Nat.reduceEqDiff, reduceIte, Xm, Nat.reduceLeDiff, g10, g11, c3, unP]
        refine ⟨nofun, _, rfl, ?_⟩
        simp only [tupV, ↓Z0, ↓Xp, ↓Xt, Xq, Xc, binP, ofCells, Nat.reduceAdd, Nat.reduceMul, Nat.reduceLT, Nat.reduceEqDiff, reduceIte]
        exact closeRes_tup rfl
      | true =>
        simp only [↓Z0, ↓Xp, ↓Xt, Xq, Xc, binP, ofCells, Nat.reduceAdd, Nat.reduceMul, Nat.reduceLT, Nat.reduceEqDiff, reduceIte, Xm, Nat.reduceLeDiff, g10, g11, c3, unP]
        refine ⟨nofun, _, rfl, ?_⟩
        simp only [tupV, ↓Z0, ↓Xp, ↓Xt, Xq, Xc, binP, ofCells, Nat.reduceAdd, Nat.reduceMul, Nat.reduceLT, Nat.reduceEqDiff, reduceIte]
        have e5 : p.2.1 + (p.1 : Int) + 4 = ((k + (p.1 + 4) : Nat) : Int) := by omega
        rw [e5]
        exact close_evs2 (b := 0) (St.get_putk _ _ _)
  · rw [if_neg h4] at eU ⊢
    rw [eU] at gU
    have c2 : ∀ (st : St) (key : Nat), callStep (runPure cfg (evFn cfg fuel) 43) false st key [.fsl (p.1 + 4) (ofBytes B)] = some (.tup [.nsl, .i .i64 12], st) := fun st key => callStep_gen (deepL_flat rfl) gU rfl
    have e12 : ((12 : Int) != Int.ofNat 0) = true := rfl
    simp only [putArgs, ↓Z0, ↓Xp, ↓Xt, Xq, Xc, binP, ofCells, Nat.reduceAdd, Nat.reduceMul, Nat.reduceLT, Nat.reduceEqDiff, reduceIte, Xm, Nat.reduceLeDiff, c1, e1, e2, hlen, hw4, hws, hwu, e3, hwi, hwa, hwb, hmid, c2, e12]
    refine ⟨nofun, _, rfl, ?_⟩
    simp only [tupV, ↓Z0, ↓Xp, ↓Xt, Xq, Xc, binP, ofCells, Nat.reduceAdd, Nat.reduceMul, Nat.reduceLT, Nat.reduceEqDiff, reduceIte]
    exact closeRes_tup rfl
def gRead : List PV → Option PV
  | [v, .i .i64 a] => match inL v with
    | some l => if l.length ≤ 140737488355328 then some (readV l a) else none
    | none => none
  | _ => none
end Go.Pe
set_option linter.unusedVariables false
set_option linter.unusedSimpArgs false
namespace Go.Pe
open Go Go.Am Go.RowKit

def inEv : PV → List Ev → Prop
  | .nsl, l => l = []
  | .fsl n cs, l => n = l.length ∧ cs = evsC l
  | _, _ => False
def putE (acc : List UInt8) (x e : Ev) : List UInt8 := putL acc e.O x.T x.J x.A x.B e.T e.J e.A e.B
def putsL (acc : List UInt8) (x : Ev) : List Ev → List UInt8
  | [] => acc
  | e :: r => putsL (putE acc x e) e r
def bodyL (l : List Ev) : List UInt8 := putsL (varint l.length) .zero l
def frameL (l : List Ev) : List UInt8 := varint (bodyL l).length ++ sealB (bodyL l)
def frameV (l : List Ev) : PV := if l = [] then .tup [.nsl, .i .i64 2] else if 4096 < l.length then .tup [.nsl, .i .i64 3] else .tup [.osl 1 (frameL l).length (ofBytes (frameL l)), .i .i64 0]
theorem putE_len (acc : List UInt8) (x e : Ev) : (putE acc x e).length ≤ acc.length + 41 := by
  have h1 := dInt_len x.T e.T
  have h2 := dInt_len x.J e.J
  have h3 := dInt_len x.A e.A
  have h4 := dInt_len x.B e.B
  unfold putE putL
  simp only [List.length_append, List.length_singleton]
  omega
theorem putsL_len (l : List Ev) : ∀ (acc : List UInt8) (x : Ev), (putsL acc x l).length ≤ acc.length + 41 * l.length := by
  induction l with
  | nil => intro acc x; exact Nat.le_add_right _ _
  | cons e r ih =>
    intro acc x
    have h1 := ih (putE acc x e) e
    have h2 := putE_len acc x e
    have : putsL acc x (e :: r) = putsL (putE acc x e) e r := rfl
    rw [this, List.length_cons]
    omega
theorem inEv_len {v : PV} {l : List Ev} (h : inEv v l) : lenP v = some (.i .i64 l.length) := by
  cases v <;> simp only [inEv] at h
  · rw [h]; rfl
  · rw [← h.1]; rfl
theorem inEv_cons {v : PV} {l : List Ev} (h : inEv v l) (hl : l ≠ []) : v = .fsl l.length (evsC l) := by
  cases v <;> simp only [inEv] at h
  · exact absurd h hl
  · rw [h.1, h.2]
theorem evsC_drop : ∀ (l : List Ev) (i : Nat), (evsC l).drop (i * 5) = evsC (l.drop i)
  | l, 0 => by simp
  | [], i + 1 => by simp [evsC]
  | e :: r, i + 1 => by
    have h : evsC (e :: r) = evC e ++ evsC r := rfl
    rw [h, List.drop_succ_cons, ← evsC_drop r i, Nat.add_mul, Nat.one_mul, Nat.add_comm, ← List.drop_drop]
    rfl
theorem load_evs {st : St} {l : List Ev} {i : Nat} (hi : i < l.length) : loadP st 5 (.fptr ((evsC l).drop (i * 5))) = some (evC (l[i]'hi)) := by
  show cut? ((evsC l).drop (i * 5)) 0 5 = _
  rw [evsC_drop, List.drop_eq_getElem_cons hi]
  have h : evsC (l[i] :: l.drop (i + 1)) = evC l[i] ++ evsC (l.drop (i + 1)) := rfl
  rw [h]
  unfold cut?
  rw [if_pos (by rw [List.length_append, evC_len]; omega)]
  rfl
set_option maxHeartbeats 8000000 in
theorem frame_ev {cfg : Cfg} (hf : cfg.fn 32 = some m32) (hx1 : cfg.ext 34 = some gUint) (hx2 : cfg.ext 56 = some gPut) (hx3 : cfg.ext 31 = some gSeal) {fuel : Nat} (hfu : 4100 ≤ fuel) {v : PV} {l : List Ev} (hv : inEv v l) (hll : l.length ≤ 140737488355328) :
    ∃ r st', evFn cfg (fuel + 1) 32 [v] { sto := .leaf, cnt := 1 } = some (r, st') ∧ closeRes st' r = some (frameV l) := by
  refine evFn_W hf ?_
  unfold m32
  have hlen := inEv_len hv
  unfold frameV
  by_cases h1 : l = []
  · have e1 : ((l.length : Int) == Int.ofNat 0) = true := by rw [h1]; rfl
    rw [if_pos h1]
    simp only [putArgs, ↓Z0, ↓Xp, ↓Xt, Xq, Xc, binP, ofCells, Nat.reduceAdd, Nat.reduceMul, Nat.reduceLT, Nat.reduceEqDiff, reduceIte, Xm, Nat.reduceLeDiff, hlen, e1]
    refine ⟨nofun, _, rfl, ?_⟩
    simp only [tupV, ↓Z0, ↓Xp, ↓Xt, Xq, Xc, binP, ofCells, Nat.reduceAdd, Nat.reduceMul, Nat.reduceLT, Nat.reduceEqDiff, reduceIte]
    exact closeRes_tup rfl
  have hpos : 0 < l.length := List.length_pos_iff.2 h1
  have e1 : ((l.length : Int) == Int.ofNat 0) = false := by
    simp only [beq_eq_false_iff_ne, ne_eq]; intro q; have : (l.length : Int) = 0 := q; omega
  rw [if_neg h1]
  by_cases h2 : 4096 < l.length
  · have e2 : (l.length : Int) > Int.ofNat 4096 := by show (l.length : Int) > 4096; omega
    rw [if_pos h2]
    simp only [putArgs, ↓Z0, ↓Xp, ↓Xt, Xq, Xc, binP, ofCells, Nat.reduceAdd, Nat.reduceMul, Nat.reduceLT, Nat.reduceEqDiff, reduceIte, Xm, Nat.reduceLeDiff, hlen, e1, e2]
    refine ⟨nofun, _, rfl, ?_⟩
    simp only [tupV, ↓Z0, ↓Xp, ↓Xt, Xq, Xc, binP, ofCells, Nat.reduceAdd, Nat.reduceMul, Nat.reduceLT, Nat.reduceEqDiff, reduceIte]
    exact closeRes_tup rfl
  have e2 : ¬ (l.length : Int) > Int.ofNat 4096 := by show ¬ (l.length : Int) > 4096; omega
  rw [if_neg h2]
  have cU : ∀ (N : Nat) (st : St) (key : Nat), N < 18446744073709551616 → callStep (runPure cfg (evFn cfg fuel) 34) false st key [.nsl, .i .u64 (N : Int)] = some (.rsl key 1 0 (varint N).length, st.put key (some (.cells (ofBytes (varint N)) false))) := by
    intro N st key hN
    refine call_nil rfl ?_
    rw [runPure_ext hx1]
    unfold gUint outL
    simp only [Int.toNat_natCast]
    rw [if_pos ⟨by omega, by omega, by decide⟩]
    rfl
  have cP : ∀ (st : St) (key k : Nat) (acc : List UInt8) (x e : Ev), st.get k = some (.cells (ofBytes acc) false) → acc.length + 60 ≤ maxBytes → callStep (runPure cfg (evFn cfg fuel) 56) true st key [.rsl k 1 0 acc.length, .agg (evC x), .agg (evC e)] = some (.rsl key 1 0 (putE acc x e).length, (st.put k none).put key (some (.cells (ofBytes (putE acc x e)) false))) := by
    intro st key k acc x e hk hb
    refine call_own2 hk rfl rfl ?_
    rw [runPure_ext hx2]
    unfold gPut evC
    have ho : outL (.osl 1 acc.length (ofBytes acc)) = some acc := by
      unfold outL
      simp only [bytesOf_of, if_true]
    simp only [ho]
    have ht := e.O.toNat_lt
    rw [if_pos ⟨by omega, by omega, hb⟩]
    have hc : ((e.O.toNat : Int).toNat).toUInt8 = e.O := by simp
    rw [hc]
    rfl
  have hwl : IntKind.u64.wrap (l.length : Int) = (l.length : Int) := wr_u64 _ ⟨by omega, by omega⟩
  rw [Z0]
  simp only [putArgs, ↓Xp, ↓Xt, Xq, Xc, binP, ofCells, Nat.reduceAdd, Nat.reduceMul, Nat.reduceLT, Nat.reduceEqDiff, reduceIte]
  refine Za (fun x => x.env.get 0 = v ∧ ∃ c, x.st = ⟨.leaf, c⟩) ?_ ?_
  · simp only [↓Z0, ↓Xp, ↓Xt, Xq, Xc, binP, ofCells, Nat.reduceAdd, Nat.reduceMul, Nat.reduceLT, Nat.reduceEqDiff, reduceIte, Xm, Nat.reduceLeDiff, hlen, e1, e2]
    exact ⟨_, rfl⟩
  rintro ⟨env, st1⟩ ⟨g0, c, rfl⟩
  simp only at g0
  have cl := fun st key => cU l.length st key (by omega)
  rw [Z0]
  simp only [↓Xp, ↓Xt, Xq, Xc, binP, ofCells, Nat.reduceAdd, Nat.reduceMul, Nat.reduceLT, Nat.reduceEqDiff, reduceIte, Xm, Nat.reduceLeDiff, g0, hlen, hwl, cl]
  rw [Z0]
  simp only [↓Xp, ↓Xt, Xq, Xc, binP, ofCells, Nat.reduceAdd, Nat.reduceMul, Nat.reduceLT, Nat.reduceEqDiff, reduceIte, Xm, Nat.reduceLeDiff]
  -- the events one by one
  refine Za (fun x => ∃ kb, x.env.get 4 = .rsl kb 1 0 (bodyL l).length ∧ x.st.get kb = some (.cells (ofBytes (bodyL l)) false) ∧ kb < x.st.cnt) ?_ ?_
  · simp only [↓Z0, ↓Xp, ↓Xt, Xq, Xc, binP, ofCells, Nat.reduceAdd, Nat.reduceMul, Nat.reduceLT, Nat.reduceEqDiff, reduceIte, Xm, Nat.reduceLeDiff, Env.get_put, g0, hlen]
    refine Z9 (k := l.length - 0) (fun d x => ∃ (i : Nat) (acc : List UInt8) (X : Ev) (kb ka : Nat), i ≤ l.length ∧ d = l.length - i ∧ putsL acc X (l.drop i) = bodyL l ∧ acc.length ≤ 10 + 41 * i ∧ x.env.get 4 = .rsl kb 1 0 acc.length ∧ x.st.get kb = some (.cells (ofBytes acc) false) ∧ x.env.get 5 = .ptr ka 0 ∧ x.st.get ka = some (.cells (evC X) false) ∧ ka ≠ kb ∧ ka < x.st.cnt ∧ kb < x.st.cnt ∧ x.env.get 20 = v ∧ x.env.get 21 = .i .i64 l.length ∧ x.env.get 22 = .i .i64 i) ?_ ?_ (by omega)
    · rintro d ⟨env, ⟨sto, c⟩⟩ ⟨i, acc, X, kb, ka, hi, rfl, hp, hal, g4, hkb, g5, hka, hne, hkac, hkbc, g20, g21, g22⟩
      simp only at g4 hkb g5 hka hkac hkbc g20 g21 g22
      by_cases hlt : i < l.length
      · have hlti : ((i : Nat) : Int) < (l.length : Int) := by omega
        have h0i : 0 ≤ ((i : Nat) : Int) := by omega
        have hvf := inEv_cons hv h1
        have hln1 := evsC_len l
        have hld := fun n => load_evs (st := ⟨sto, n⟩) hlt
        rw [List.drop_eq_getElem_cons hlt] at hp
        generalize l[i]'hlt = e at *
        have hwi : IntKind.i64.wrap ((i : Int) + Int.ofNat 1) = ((i + 1 : Nat) : Int) := by
          rw [wr_i64 _ ⟨by show _ ≤ (i : Int) + 1; omega, by show (i : Int) + 1 < _; omega⟩]; rfl
        have hst := fun n => store_whole (st := (⟨sto, n⟩ : St).put (c + 24) (some (.cells [.i .i64 (Int.ofNat 0), .i .u8 (Int.ofNat 0), .i .i64 (Int.ofNat 0), .i .i64 (Int.ofNat 0), .i .i64 (Int.ofNat 0)] false))) (v := .agg (evC e)) (n := 5) (St.get_putk _ _ _) rfl rfl rfl
        have hce : (PV.agg (evC e)).cells = evC e := rfl
        simp only [hce] at hst
        simp only [↓Z0, ↓Xp, ↓Xt, Xq, Xc, binP, ofCells, Nat.reduceAdd, Nat.reduceMul, Nat.reduceLT, Nat.reduceEqDiff, reduceIte, g4, g5, g20, g21, g22, hlti, hvf, hln1, hld, evC_len, h0i, hst]
        obtain ⟨S1, hS1⟩ : ∃ S, ((⟨sto, c + 40⟩ : St).put (c + 24) (some (.cells [.i .i64 (Int.ofNat 0), .i .u8 (Int.ofNat 0), .i .i64 (Int.ofNat 0), .i .i64 (Int.ofNat 0), .i .i64 (Int.ofNat 0)] false))).put (c + 24) (some (.cells (evC e) false)) = S := ⟨_, rfl⟩
        have q7 : S1.get (c + 24) = some (.cells (evC e) false) := by rw [← hS1]; exact St.get_putk _ _ _
        have qc : S1.cnt = c + 40 := by rw [← hS1]; rfl
        have qf : ∀ j, j ≠ c + 24 → S1.get j = St.get ⟨sto, c⟩ j := by intro j hj; rw [← hS1, St.get_put_ne (fun e => hj e.symm), St.get_put_ne (fun e => hj e.symm)]; rfl
        simp only [hS1]
        have hld1 : loadP ⟨S1.sto, S1.cnt + 40⟩ 5 (.ptr ka 0) = some (evC X) := load_whole (st := ⟨S1.sto, S1.cnt + 40⟩) ((qf ka (by omega)).trans hka) rfl
        have hld2 : loadP ⟨S1.sto, S1.cnt + 40⟩ 5 (.ptr (c + 24) 0) = some (evC e) := load_whole (st := ⟨S1.sto, S1.cnt + 40⟩) q7 rfl
        have hcp := cP ⟨S1.sto, S1.cnt + 40⟩ (S1.cnt + 24) kb acc X e ((qf kb (by omega)).trans hkb) (by unfold maxBytes; omega)
        obtain ⟨S2, hS2⟩ : ∃ S, ((⟨S1.sto, S1.cnt + 40⟩ : St).put kb none).put (S1.cnt + 24) (some (.cells (ofBytes (putE acc X e)) false)) = S := ⟨_, rfl⟩
        rw [hS2] at hcp
        have rb : S2.get (S1.cnt + 24) = some (.cells (ofBytes (putE acc X e)) false) := by rw [← hS2]; exact St.get_putk _ _ _
        have rc : S2.cnt = c + 80 := by rw [← hS2]; show S1.cnt + 40 = _; omega
        have rf : ∀ j, j ≠ S1.cnt + 24 → j ≠ kb → S2.get j = S1.get j := by intro j hj hj2; rw [← hS2, St.get_put_ne (fun e => hj e.symm), St.get_put_ne (fun e => hj2 e.symm)]; rfl
        have hld3 : loadP ⟨S2.sto, S2.cnt + 16⟩ 5 (.ptr (c + 24) 0) = some (evC e) := load_whole (st := ⟨S2.sto, S2.cnt + 16⟩) ((rf (c + 24) (by omega) (by omega)).trans q7) rfl
        have hst2 := store_whole (st := ⟨S2.sto, S2.cnt + 16⟩) (k := ka) (v := .agg (evC e)) (n := 5) (((rf ka (by omega) hne).trans (qf ka (by omega))).trans hka) rfl rfl rfl
        simp only [hce] at hst2
        have hp' : putsL (putE acc X e) e (l.drop (i + 1)) = bodyL l := hp
        have hpl := putE_len acc X e
        simp only [↓Z0, ↓Xp, ↓Xt, Xq, Xc, binP, ofCells, Nat.reduceAdd, Nat.reduceMul, Nat.reduceLT, Nat.reduceEqDiff, reduceIte, hld1, hld2, hcp, hld3, hst2, hwi]
        refine ⟨l.length - (i + 1), by omega, i + 1, putE acc X e, e, S1.cnt + 24, ka, by omega, rfl, hp', by omega, rfl, ?_, rfl, ?_, by omega, ?_, ?_, rfl⟩
        · exact (St.get_put_ne (by omega)).trans rb
        · exact St.get_putk _ _ _
        · show ka < S2.cnt + 16 + 16
          omega
        · show S1.cnt + 24 < S2.cnt + 16 + 16
          omega
      · have hie : i = l.length := by omega
        subst hie
        have hni : ¬ ((l.length : Nat) : Int) < (l.length : Int) := Int.lt_irrefl _
        rw [List.drop_length] at hp
        have hp' : acc = bodyL l := hp
        subst hp'
        simp only [↓Z0, ↓Xp, ↓Xt, Xq, Xc, binP, ofCells, Nat.reduceAdd, Nat.reduceMul, Nat.reduceLT, Nat.reduceEqDiff, reduceIte, g4, g5, g20, g21, g22, hni]
        exact ⟨kb, rfl, hkb, Nat.lt_of_lt_of_le hkbc (Nat.le_add_right _ _)⟩
    · refine ⟨0, varint l.length, .zero, c + 24, c + 40, Nat.zero_le _, rfl, rfl, ?_, ?_, ?_, ?_, ?_, by omega, ?_, ?_, ?_, ?_, ?_⟩
      · have := varint_le l.length
        omega
      · simp [Env.get_put]
      · show (St.put ⟨(St.put ⟨.leaf, c + 40⟩ (c + 24) _).sto, c + 48⟩ (c + 40) _).get (c + 24) = _
        rw [St.get_put_ne (by omega)]
        show (St.put ⟨.leaf, c + 40⟩ (c + 24) _).get (c + 24) = _
        exact St.get_putk _ _ _
      · simp [Env.get_put]
      · exact St.get_putk _ _ _
      · show c + 40 < c + 72
        omega
      · show c + 24 < c + 72
        omega
      · simp [Env.get_put]
      · simp [Env.get_put]
      · simp [Env.get_put]
  rintro ⟨env, ⟨sto, c⟩⟩ ⟨kb, g4, hkb, hkbc⟩
  simp only at g4 hkb hkbc
  have hbl : (bodyL l).length ≤ 10 + 41 * l.length := by
    have q1 := putsL_len l (varint l.length) .zero
    have q2 := varint_le l.length
    unfold bodyL
    omega
  have cS : ∀ (st : St) (key : Nat), st.get kb = some (.cells (ofBytes (bodyL l)) false) → callStep (runPure cfg (evFn cfg fuel) 31) false st key [.rsl kb 1 0 (bodyL l).length] = some (.rsl key 1 0 (sealB (bodyL l)).length, st.put key (some (.cells (ofBytes (sealB (bodyL l))) false))) := by
    intro st key hk
    refine call_deep (ps' := [.fsl (bodyL l).length (ofBytes (bodyL l))]) ?_ ?_
    · have : deep st (10 + 1 + 1) (.rsl kb 1 0 (bodyL l).length) = some (.fsl (bodyL l).length (ofBytes (bodyL l))) := deep_bytesF 10 hk
      have e : deep st deepN (.rsl kb 1 0 (bodyL l).length) = some (.fsl (bodyL l).length (ofBytes (bodyL l))) := this
      show mapO (deep st deepN) [_] = _
      simp only [mapO, e]
    · rw [runPure_ext hx3]
      unfold gSeal
      simp only [in_fsl]
      rw [if_pos (by omega)]
  have hsl : (sealB (bodyL l)).length = (bodyL l).length + 4 := by
    unfold sealB be4
    simp
  have hvl := varint_le (bodyL l).length
  unfold frameL
  generalize bodyL l = B at *
  generalize sealB B = T at *
  have hwB : IntKind.u64.wrap (B.length : Int) = (B.length : Int) := wr_u64 _ ⟨by omega, by omega⟩
  have clB := fun st key => cU B.length st key (by omega)
  generalize varint B.length = U at *
  have hlB : lenP (.rsl kb 1 0 B.length) = some (.i .i64 B.length) := rfl
  obtain ⟨U1, hU1⟩ : ∃ S, (⟨sto, c + 72⟩ : St).put (c + 24) (some (.cells (ofBytes U) false)) = S := ⟨_, rfl⟩
  have q1 : U1.get (c + 24) = some (.cells (ofBytes U) false) := by rw [← hU1]; exact St.get_putk _ _ _
  have qb : U1.get kb = some (.cells (ofBytes B) false) := by rw [← hU1]; exact (St.get_put_ne (by omega)).trans hkb
  have clB' := clB ⟨sto, c + 72⟩ (c + 24)
  rw [hU1] at clB'
  obtain ⟨U2, hU2⟩ : ∃ S, U1.put (c + 40) (some (.cells (ofBytes T) false)) = S := ⟨_, rfl⟩
  have r1 : U2.get (c + 24) = some (.cells (ofBytes U) false) := by rw [← hU2]; exact (St.get_put_ne (by omega)).trans q1
  have r2 : U2.get (c + 40) = some (.cells (ofBytes T) false) := by rw [← hU2]; exact St.get_putk _ _ _
  have cS' := cS U1 (c + 40) qb
  rw [hU2] at cS'
  have hcl : cellsOf U2 1 (.rsl (c + 40) 1 0 T.length) = some (T.length, ofBytes T) := by
    unfold cellsOf
    simp only [r2, cut?, len_ofBytes, Nat.mul_one, Nat.zero_add, List.drop_zero]
    rw [if_pos (Nat.le_refl _), take_ofBytes, List.take_length]
    rfl
  have hoT := one_ofBytes T
  obtain ⟨U3, ha, hb, hc3⟩ := app_own (st := U2) (key := c + 48) (news := T) r1 (by unfold maxBytes; omega)
  simp only [↓Z0, ↓Xp, ↓Xt, Xq, Xc, binP, ofCells, Nat.reduceAdd, Nat.reduceMul, Nat.reduceLT, Nat.reduceEqDiff, reduceIte, g4, hlB, hwB, clB', cS', hcl, hoT, ha]
  refine ⟨nofun, _, rfl, ?_⟩
  simp only [tupV, ↓Z0, ↓Xp, ↓Xt, Xq, Xc, binP, ofCells, Nat.reduceAdd, Nat.reduceMul, Nat.reduceLT, Nat.reduceEqDiff, reduceIte]
  exact close_pair hb
def evsOf : List PV → Option (List Ev)
  | [] => some []
  | .i .i64 t :: .i .u8 o :: .i .i64 j :: .i .i64 a :: .i .i64 b :: r => if 0 ≤ o ∧ o < 256 then (evsOf r).map (⟨t, UInt8.ofNat o.toNat, j, a, b⟩ :: ·) else none
  | _ => none
theorem evsOf_evsC : ∀ l : List Ev, evsOf (evsC l) = some l
  | [] => rfl
  | e :: r => by
    have h : evsC (e :: r) = evC e ++ evsC r := rfl
    have ho := e.O.toNat_lt
    rw [h]
    unfold evC
    simp only [List.cons_append, List.nil_append]
    unfold evsOf
    rw [if_pos ⟨by omega, by omega⟩, evsOf_evsC r]
    simp
theorem evsOf_some (n : Nat) : ∀ {cs : List PV} {l : List Ev}, cs.length ≤ n → evsOf cs = some l → cs = evsC l := by
  induction n with
  | zero =>
    intro cs l hn h
    have : cs = [] := List.length_eq_zero_iff.1 (by omega)
    subst this
    simp only [evsOf, Option.some.injEq] at h
    rw [← h]; rfl
  | succ n ih =>
    intro cs l hn h
    unfold evsOf at h
    split at h
    · simp only [Option.some.injEq] at h
      rw [← h]; rfl
    · rename_i t o j a b r
      split at h
      · rename_i ho
        cases hr : evsOf r with
        | none => rw [hr] at h; simp at h
        | some m =>
          rw [hr] at h
          simp only [Option.map_some, Option.some.injEq] at h
          have := ih (by simp only [List.length_cons] at hn; omega) hr
          rw [← h, this]
          have h2 : (((UInt8.ofNat o.toNat).toNat : Nat) : Int) = o := by
            rw [UInt8.toNat_ofNat']; omega
          show _ = evC _ ++ evsC m
          unfold evC
          simp only [h2, List.cons_append, List.nil_append]
      · simp at h
    · simp at h
def gFrame : List PV → Option PV
  | [.nsl] => some (frameV [])
  | [.fsl n cs] => match evsOf cs with
    | some l => if n = l.length ∧ n ≤ 140737488355328 then some (frameV l) else none
    | none => none
  | _ => none
end Go.Pe
