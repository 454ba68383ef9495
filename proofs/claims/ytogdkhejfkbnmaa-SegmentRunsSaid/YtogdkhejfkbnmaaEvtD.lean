/-
  Events: those of a body, by the interpreter of plain data. No condition.
-/
import Derived.Test.YtogdkhejfkbnmaaEvtB
set_option linter.unusedVariables false
set_option linter.unusedSimpArgs false
namespace Go.Pe
open Go Go.Am Go.RowKit

structure Ev where
  T : Int
  O : UInt8
  J : Int
  A : Int
  B : Int
  deriving DecidableEq
def Ev.zero : Ev := ⟨0, 0, 0, 0, 0⟩
def evC (e : Ev) : List PV := [.i .i64 e.T, .i .u8 e.O.toNat, .i .i64 e.J, .i .i64 e.A, .i .i64 e.B]
def evsC (l : List Ev) : List PV := l.flatMap evC
theorem evC_len (e : Ev) : (evC e).length = 5 := rfl
theorem evC_one (e : Ev) : (evC e).all PV.one = true := rfl
theorem evsC_len : ∀ l : List Ev, (evsC l).length = l.length * 5
  | [] => rfl
  | e :: r => by
    have : evsC (e :: r) = evC e ++ evsC r := rfl
    rw [this, List.length_append, evsC_len r, evC_len, List.length_cons]
    omega
theorem evsC_app (l : List Ev) (e : Ev) : evsC l ++ evC e = evsC (l ++ [e]) := by simp [evsC]
def getE (l : List UInt8) (at0 : Int) (x : Ev) : Ev × Int × Int :=
  if at0 < 0 ∨ (l.length : Int) < at0 then (.zero, 0, 2)
  else if at0 = l.length then (.zero, 0, 11)
  else
    let s1 := getSt l x.T (at0 + 1, 0)
    let s2 := getSt l x.J s1.2
    let s3 := getSt l x.A s2.2
    let s4 := getSt l x.B s3.2
    if s4.2.2 = 0 then (⟨s1.1, l.getD at0.toNat 0, s2.1, s3.1, s4.1⟩, s4.2.1, 0) else (.zero, 0, s4.2.2)
def getET (p : Ev × Int × Int) : PV := .tup [.agg (evC p.1), .i .i64 p.2.1, .i .i64 p.2.2]
theorem getV_eq (l : List UInt8) (at0 : Int) (x : Ev) : getV l at0 x.T x.J x.A x.B = getET (getE l at0 x) := by
  unfold getV getE
  simp only []
  repeat' split
  all_goals rfl
def readsL (body : List UInt8) : Nat → Int → Ev → List Ev → Option (List Ev × Int)
  | 0, at0, _, acc => some (acc, at0)
  | n + 1, at0, x, acc => if (getE body at0 x).2.2 = 0 then readsL body n (getE body at0 x).2.1 (getE body at0 x).1 (acc ++ [(getE body at0 x).1]) else none
def eventsL (body : List UInt8) : Option (List Ev × Bool) :=
  if (getU body 0).2.2 = 0 ∧ 1 ≤ (getU body 0).1 ∧ (getU body 0).1 ≤ 4096 then
    match readsL body (getU body 0).1 (getU body 0).2.1 .zero [] with
    | some (l, a) => some (l, a == (body.length : Int))
    | none => none
  else none
def eventsV (body : List UInt8) : PV := match eventsL body with
  | some (l, b) => .tup [.osl 5 l.length (evsC l), .b b]
  | none => .tup [.nsl, .b false]
def OutE (st : St) (v : PV) (l : List Ev) : Prop := (v = .nsl ∧ l = []) ∨ ∃ k, v = .rsl k 5 0 l.length ∧ st.get k = some (.cells (evsC l) false) ∧ k < st.cnt
theorem OutE.mono {st st' : St} {v : PV} {l : List Ev} (h : OutE st v l) (hg : ∀ k, k < st.cnt → (∀ a b c, v = .rsl k a b c → st'.get k = st.get k)) (hc : st.cnt ≤ st'.cnt) : OutE st' v l := by
  rcases h with h | ⟨k, h1, h2, h3⟩
  · exact .inl h
  · exact .inr ⟨k, h1, by rw [hg k h3 _ _ _ h1]; exact h2, by omega⟩
theorem app_ev {st : St} {v : PV} {l : List Ev} {e : Ev} (h : OutE st v l) {key : Nat} (hl : (l.length + 1) * 40 ≤ maxBytes) :
    ∃ st', appendP st key 5 40 1 (evC e) v = some (.rsl key 5 0 (l ++ [e]).length, st') ∧ st'.get key = some (.cells (evsC (l ++ [e])) false) ∧ st'.cnt = st.cnt ∧ ∀ j, j ≠ key → (∀ a b c, v ≠ .rsl j a b c) → st'.get j = st.get j := by
  rcases h with ⟨rfl, rfl⟩ | ⟨k, rfl, hk, _⟩
  · refine ⟨st.put key (some (.cells (evC e) false)), ?_, ?_, rfl, fun j hj _ => St.get_put_ne (fun e => hj e.symm)⟩
    · unfold appendP
      rw [if_neg (by omega), if_pos (by simpa using hl)]
      rfl
    · rw [St.get_putk]
      simp [evsC]
  · refine ⟨(st.put k none).put key (some (.cells (evsC (l ++ [e])) false)), ?_, St.get_putk _ _ _, rfl, fun j hj hv => ?_⟩
    · unfold appendP
      simp only [hk, evsC_len, evsC_app]
      rw [if_pos ⟨trivial, trivial, trivial, hl⟩]
      simp
    · rw [St.get_put_ne (fun e => hj e.symm), St.get_put_ne (fun e => hv 5 0 l.length (by rw [e]))]
theorem deep_get (st : St) {v : PV} (hv : v.flat = true) (a : Int) (x : Ev) : deepL st [v, .i .i64 a, .agg (evC x)] = some [v, .i .i64 a, .agg (evC x)] := by
  have e1 : deep st (11 + 1) v = some v := deep_some 11 hv
  have e2 : deep st (11 + 1) (.i .i64 a) = some (.i .i64 a) := rfl
  have e3 : deep st (11 + 1) (.agg (evC x)) = some (.agg (evC x)) := rfl
  show mapO (deep st (11 + 1)) _ = _
  simp only [mapO, e1, e2, e3]
theorem close_evs {st : St} {k : Nat} {l : List Ev} {b : Bool} (hk : st.get k = some (.cells (evsC l) false)) : closeRes st (.tup [.rsl k 5 0 l.length, .b b]) = some (.tup [.osl 5 l.length (evsC l), .b b]) := by
  have hw : whole? st (.rsl k 5 0 l.length) = some (k, 5, l.length, evsC l) := by
    unfold whole?
    simp only [hk, evsC_len]
    rw [if_pos ⟨trivial, trivial, by omega⟩]
  have hfl : (evsC l).all PV.flat = true := by
    rw [List.all_eq_true]
    intro p hp
    simp only [evsC, List.mem_flatMap] at hp
    obtain ⟨e, _, hp⟩ := hp
    simp only [evC, List.mem_cons, List.not_mem_nil, or_false] at hp
    rcases hp with rfl | rfl | rfl | rfl | rfl <;> rfl
  have hf : firstWhole st [.rsl k 5 0 l.length, .b b] = some (0, k, 5, l.length, evsC l) := by
    unfold firstWhole
    rw [hw]
  unfold closeRes
  simp only [hf, keysL_flat hfl, deepL_flat hfl]
  rfl
set_option maxHeartbeats 8000000 in
theorem events_ev {cfg : Cfg} (hf : cfg.fn 58 = some m58) (hx1 : cfg.ext 45 = some gGetU) (hx2 : cfg.ext 83 = some gGetE) {fuel : Nat} (hfu : 4100 ≤ fuel) {v : PV} {l : List UInt8} (hv : inL v = some l) (hll : l.length ≤ 140737488355328) :
    ∃ r st', evFn cfg (fuel + 1) 58 [v] { sto := .leaf, cnt := 1 } = some (r, st') ∧ closeRes st' r = some (eventsV l) := by
  refine evFn_W hf ?_
  unfold m58
  have hlen := in_len hv
  have hlt := getU_lt l 0
  have c1 : ∀ (st : St) (key : Nat), callStep (runPure cfg (evFn cfg fuel) 45) false st key [v, .i .i64 (.ofNat 0)] = some (.tup [.i .u64 ((getU l 0).1 : Int), .i .i64 (getU l 0).2.1, .i .i64 (getU l 0).2.2], st) := by
    intro st key
    refine callStep_flat (by simp only [List.all_cons, in_flat hv, List.all_nil, Bool.and_self, Bool.true_and]; rfl) ?_ rfl
    rw [runPure_ext hx1]
    unfold gGetU
    simp only [hv]
    rw [if_pos hll]
    rfl
  have c2 : ∀ (st : St) (key : Nat) (a : Int) (x : Ev), callStep (runPure cfg (evFn cfg fuel) 83) false st key [v, .i .i64 a, .agg (evC x)] = some (.tup [.agg (evC (getE l a x).1), .i .i64 (getE l a x).2.1, .i .i64 (getE l a x).2.2], st) := by
    intro st key a x
    refine call_deepb (deep_get st (in_flat hv) a x) ?_ rfl rfl
    rw [runPure_ext hx2]
    unfold gGetE evC
    simp only [hv]
    rw [if_pos hll, getV_eq]
    rfl
  unfold eventsV eventsL
  generalize getU l 0 = p at *
  by_cases h1 : p.2.2 ≠ 0
  · have e1 : (p.2.2 != Int.ofNat 0) = true := by simpa using h1
    rw [if_neg (fun q => h1 q.1)]
    simp only [putArgs, ↓Z0, ↓Xp, ↓Xt, Xq, Xc, binP, ofCells, Nat.reduceAdd, Nat.reduceMul, Nat.reduceLT, Nat.reduceEqDiff, reduceIte, Xm, Nat.reduceLeDiff, c1, e1]
    refine ⟨nofun, _, rfl, ?_⟩
    simp only [tupV, ↓Z0, ↓Xp, ↓Xt, Xq, Xc, binP, ofCells, Nat.reduceAdd, Nat.reduceMul, Nat.reduceLT, Nat.reduceEqDiff, reduceIte]
    exact closeRes_tup rfl
  have e1 : (p.2.2 != Int.ofNat 0) = false := by simpa using h1
  have h1' : p.2.2 = 0 := by simpa using h1
  by_cases h2 : p.1 < 1
  · have e2 : (p.1 : Int) < Int.ofNat 1 := by show (p.1 : Int) < 1; omega
    rw [if_neg (fun q => by omega)]
    simp only [putArgs, ↓Z0, ↓Xp, ↓Xt, Xq, Xc, binP, ofCells, Nat.reduceAdd, Nat.reduceMul, Nat.reduceLT, Nat.reduceEqDiff, reduceIte, Xm, Nat.reduceLeDiff, c1, e1, e2]
    refine ⟨nofun, _, rfl, ?_⟩
    simp only [tupV, ↓Z0, ↓Xp, ↓Xt, Xq, Xc, binP, ofCells, Nat.reduceAdd, Nat.reduceMul, Nat.reduceLT, Nat.reduceEqDiff, reduceIte]
    exact closeRes_tup rfl
  have e2 : ¬ (p.1 : Int) < Int.ofNat 1 := by show ¬ (p.1 : Int) < 1; omega
  by_cases h3 : 4096 < p.1
  · have e3 : (p.1 : Int) > Int.ofNat 4096 := by show (p.1 : Int) > 4096; omega
    rw [if_neg (fun q => by omega)]
    simp only [putArgs, ↓Z0, ↓Xp, ↓Xt, Xq, Xc, binP, ofCells, Nat.reduceAdd, Nat.reduceMul, Nat.reduceLT, Nat.reduceEqDiff, reduceIte, Xm, Nat.reduceLeDiff, c1, e1, e2, e3]
    refine ⟨nofun, _, rfl, ?_⟩
    simp only [tupV, ↓Z0, ↓Xp, ↓Xt, Xq, Xc, binP, ofCells, Nat.reduceAdd, Nat.reduceMul, Nat.reduceLT, Nat.reduceEqDiff, reduceIte]
    exact closeRes_tup rfl
  have e3 : ¬ (p.1 : Int) > Int.ofNat 4096 := by show ¬ (p.1 : Int) > 4096; omega
  rw [if_pos ⟨h1', by omega, by omega⟩]
  -- up to the loop
  refine Za (fun x => x.env.get 0 = v ∧ x.st = ⟨.leaf, 17⟩) ?_ ?_
  · simp only [putArgs, ↓Z0, ↓Xp, ↓Xt, Xq, Xc, binP, ofCells, Nat.reduceAdd, Nat.reduceMul, Nat.reduceLT, Nat.reduceEqDiff, reduceIte]
    (repeat' (first | exact True.intro | rfl | assumption | omega | apply And.intro))
  rintro ⟨env, st1⟩ ⟨g0, rfl⟩
  simp only at g0
  refine Za (fun x => x.env.get 0 = v ∧ x.env.get 4 = PV.i .u64 (p.1 : Int) ∧ x.env.get 5 = PV.i .i64 p.2.1 ∧ x.env.get 6 = PV.i .i64 p.2.2 ∧ ∃ c, x.st = ⟨.leaf, c⟩) ?_ ?_
  · simp only [↓Z0, ↓Xp, ↓Xt, Xq, Xc, binP, ofCells, Nat.reduceAdd, Nat.reduceMul, Nat.reduceLT, Nat.reduceEqDiff, reduceIte, Xm, Nat.reduceLeDiff, g0, c1]
    exact ⟨_, rfl⟩
  rintro ⟨env, st1⟩ ⟨g0, g4, g5, g6, c, rfl⟩
  simp only at g0 g4 g5 g6
  refine Za (fun x => x.env.get 0 = v ∧ x.env.get 4 = PV.i .u64 (p.1 : Int) ∧ x.env.get 5 = PV.i .i64 p.2.1 ∧ ∃ c, x.st = ⟨.leaf, c⟩) ?_ ?_
  · simp only [↓Z0, ↓Xp, ↓Xt, Xq, Xc, binP, ofCells, Nat.reduceAdd, Nat.reduceMul, Nat.reduceLT, Nat.reduceEqDiff, reduceIte, Xm, Nat.reduceLeDiff, g0, g4, g5, g6, e1, e2, e3]
    exact ⟨_, rfl⟩
  clear g0 g4 g5 g6
  rintro ⟨env, st1⟩ ⟨g0, g4, g5, c, rfl⟩
  simp only at g0 g4 g5
  generalize hRes : readsL l p.1 p.2.1 .zero [] = Res
  rw [Z0]
  simp only [↓Xp, ↓Xt, Xq, Xc, binP, ofCells, Nat.reduceAdd, Nat.reduceMul, Nat.reduceLT, Nat.reduceEqDiff, reduceIte]
  rw [Z0]
  simp only [↓Xp, ↓Xt, Xq, Xc, binP, ofCells, Nat.reduceAdd, Nat.reduceMul, Nat.reduceLT, Nat.reduceEqDiff, reduceIte, Xm, Nat.reduceLeDiff]
  have fin : ∀ (x : Now), x.env.get 0 = x.env.get 0 → True := fun _ _ => trivial
  rw [Z0]
  refine WC.mono (Q := fun e x => (e = .nrm ∧ ∃ (L : List Ev) (a : Int) (w : PV), Res = some (L, a) ∧ x.env.get 0 = v ∧ x.env.get 5 = PV.i .i64 a ∧ x.env.get 7 = w ∧ OutE x.st w L ∧ L.length = p.1) ∨ (e = .ret ∧ Res = none ∧ x.env.get 2 = .nsl ∧ x.env.get 3 = .b false)) ?_ ?_
  · simp only [↓Z0, ↓Xp, ↓Xt, Xq, Xc, binP, ofCells, Nat.reduceAdd, Nat.reduceMul, Nat.reduceLT, Nat.reduceEqDiff, reduceIte, Xm, Nat.reduceLeDiff, g0, g4, g5]
    refine Z9 (k := p.1 - 0) (fun d x => ∃ (i : Nat) (a : Int) (X : Ev) (acc : List Ev) (w : PV) (k8 : Nat), i ≤ p.1 ∧ d = p.1 - i ∧ readsL l (p.1 - i) a X acc = Res ∧ acc.length = i ∧ x.env.get 0 = v ∧ x.env.get 5 = .i .i64 a ∧ x.env.get 7 = w ∧ OutE x.st w acc ∧ x.env.get 8 = .ptr k8 0 ∧ x.st.get k8 = some (.cells (evC X) false) ∧ k8 < x.st.cnt ∧ (∀ q b c, w ≠ .rsl k8 q b c) ∧ x.env.get 25 = .i .u64 (p.1 : Int) ∧ x.env.get 26 = .i .u64 (i : Int)) ?_ ?_ (by omega)
    · rintro d ⟨env, ⟨sto, c⟩⟩ ⟨i, a, X, acc, w, k8, hi, rfl, hres, hacc, g0, g5, g7, ho, g8, hk8, hk8c, hw8, g25, g26⟩
      simp only at g0 g5 g7 ho g8 hk8 hk8c g25 g26
      have hk8' : ∀ n, St.get ⟨sto, n⟩ k8 = some (.cells (evC X) false) := fun _ => hk8
      by_cases hlti0 : i < p.1
      · have hlti : ((i : Nat) : Int) < (p.1 : Int) := by omega
        have hn : p.1 - i = (p.1 - (i + 1)) + 1 := by omega
        rw [hn] at hres
        have er : readsL l (p.1 - (i + 1) + 1) a X acc = if (getE l a X).2.2 = 0 then readsL l (p.1 - (i + 1)) (getE l a X).2.1 (getE l a X).1 (acc ++ [(getE l a X).1]) else none := rfl
        rw [er] at hres
        have c2' := fun st key => c2 st key a X
        have hcut : cut? (evC X) 0 5 = some (evC X) := rfl
        have hwi : IntKind.u64.wrap ((i : Int) + Int.ofNat 1) = ((i + 1 : Nat) : Int) := by
          rw [wr_u64 _ ⟨by show (0 : Int) ≤ (i : Int) + 1; omega, by show (i : Int) + 1 < _; omega⟩]; rfl
        generalize getE l a X = g at *
        have hst : ∀ n, storeP ⟨sto, n⟩ 5 (.ptr k8 0) (.agg (evC g.1)) = some ((⟨sto, n⟩ : St).put k8 (some (.cells (evC g.1) false))) := fun n => store_whole (v := .agg (evC g.1)) (hk8' n) rfl rfl rfl
        have hld : ∀ n, loadP ⟨sto, n⟩ 5 (.ptr k8 0) = some (evC X) := fun n => load_whole (hk8' n) rfl
        by_cases hok : g.2.2 = 0
        · rw [if_pos hok] at hres
          have eo : (g.2.2 != Int.ofNat 0) = false := by rw [hok]; rfl
          simp only [↓Z0, ↓Xp, ↓Xt, Xq, Xc, binP, ofCells, Nat.reduceAdd, Nat.reduceMul, Nat.reduceLT, Nat.reduceEqDiff, reduceIte, g0, g5, g7, g8, g25, g26, hlti, hld, c2', List.getElem?_cons_zero, List.getElem?_cons_succ, hst, eo]
          obtain ⟨S2, hS2⟩ : ∃ S, (⟨sto, c + 96⟩ : St).put k8 (some (.cells (evC g.1) false)) = S := ⟨_, rfl⟩
          have q8 : S2.get k8 = some (.cells (evC g.1) false) := by rw [← hS2]; exact St.get_putk _ _ _
          have qc : S2.cnt = c + 96 := by rw [← hS2]; rfl
          have qf : ∀ j, j ≠ k8 → S2.get j = St.get ⟨sto, c⟩ j := by intro j hj; rw [← hS2, St.get_put_ne (fun e => hj e.symm)]; rfl
          simp only [hS2]
          have hld2 : loadP ⟨S2.sto, S2.cnt + 56⟩ 5 (.ptr k8 0) = some (evC g.1) := load_whole (st := ⟨S2.sto, S2.cnt + 56⟩) q8 rfl
          have hfill : fillP [.i .i64 (.ofNat 0), .i .u8 (.ofNat 0), .i .i64 (.ofNat 0), .i .i64 (.ofNat 0), .i .i64 (.ofNat 0)] [(0, 5, .agg (evC g.1))] = some (evC g.1) := rfl
          obtain ⟨S3, hS3⟩ : ∃ S, (⟨S2.sto, S2.cnt + 56⟩ : St).put (S2.cnt + 32) (some (.cells (evC g.1) false)) = S := ⟨_, rfl⟩
          have r3 : S3.get (S2.cnt + 32) = some (.cells (evC g.1) false) := by rw [← hS3]; exact St.get_putk _ _ _
          have rc : S3.cnt = c + 152 := by rw [← hS3]; show S2.cnt + 56 = _; omega
          have rf : ∀ j, j ≠ k8 → j ≠ S2.cnt + 32 → S3.get j = St.get ⟨sto, c⟩ j := by intro j hj hj2; rw [← hS3, St.get_put_ne (fun e => hj2 e.symm)]; exact qf j hj
          have r8 : S3.get k8 = some (.cells (evC g.1) false) := by rw [← hS3, St.get_put_ne (by omega)]; exact q8
          have hcl : cellsOf S3 5 (.rsl (S2.cnt + 32) 5 0 1) = some (1, evC g.1) := by
            unfold cellsOf
            simp only [r3]
            rfl
          have ho3 : OutE S3 w acc := by
            exact ho.mono (fun q hq a b c h => rf q (fun e => hw8 a b c (by rw [← e]; exact h)) (by simp only at hq; omega)) (by show c ≤ S3.cnt; omega)
          obtain ⟨S4, ha, hb, hc4, hf4⟩ := app_ev (st := S3) (v := w) (l := acc) (e := g.1) ho3 (key := S2.cnt + 40) (by unfold maxBytes; omega)
          simp only [↓Z0, ↓Xp, ↓Xt, Xq, Xc, binP, ofCells, Nat.reduceAdd, Nat.reduceMul, Nat.reduceLT, Nat.reduceEqDiff, reduceIte, hld2, hfill, evC_len, hS3, hcl, evC_one, ha, hwi]
          refine ⟨p.1 - (i + 1), by omega, i + 1, g.2.1, g.1, acc ++ [g.1], .rsl (S2.cnt + 40) 5 0 (acc ++ [g.1]).length, k8, by omega, rfl, hres, by simp [hacc], rfl, rfl, .inr ⟨S2.cnt + 40, rfl, hb, ?_⟩, rfl, ?_, by omega, ?_, rfl⟩
          · show S2.cnt + 40 < S4.cnt + 16
            omega
          · show S4.get k8 = _
            rw [hf4 k8 (by omega) hw8]; exact r8
          · intro q b c h
            injection h with h5
            omega
        · rw [if_neg hok] at hres
          have eo : (g.2.2 != Int.ofNat 0) = true := by simpa using hok
          simp only [↓Z0, ↓Xp, ↓Xt, Xq, Xc, binP, ofCells, Nat.reduceAdd, Nat.reduceMul, Nat.reduceLT, Nat.reduceEqDiff, reduceIte, g0, g5, g7, g8, g25, g26, hlti, hld, c2', List.getElem?_cons_zero, List.getElem?_cons_succ, hst, eo]
          right
          (repeat' (first | exact True.intro | rfl | assumption | omega | apply And.intro))
          exact hres.symm
      · have hie : i = p.1 := by omega
        subst hie
        rw [Nat.sub_self] at hres
        have hres' : some (acc, a) = Res := hres
        simp only [↓Z0, ↓Xp, ↓Xt, Xq, Xc, binP, ofCells, Nat.reduceAdd, Nat.reduceMul, Nat.reduceLT, Nat.reduceEqDiff, reduceIte, g0, g5, g7, g8, g25, g26, Int.lt_irrefl]
        left
        have hA1 := hres'.symm
        have hA2 : OutE ⟨sto, c + 8⟩ w acc := ho.mono (fun _ _ _ _ _ _ => rfl) (Nat.le_add_right _ _)
        refine ⟨acc, a, w, ?_⟩
        (repeat' (first | exact True.intro | rfl | assumption | omega | apply And.intro))
    · refine ⟨0, p.2.1, .zero, [], .nsl, c + 8, Nat.zero_le _, rfl, hRes, rfl, by simp [Env.get_put, g0], by simp [Env.get_put, g5], by simp [Env.get_put], .inl ⟨rfl, rfl⟩, by simp [Env.get_put], ?_, ?_, (fun _ _ _ h => nomatch h), by simp [Env.get_put], by simp [Env.get_put]⟩
      · show (St.put ⟨.leaf, c + 16⟩ (c + 8) _).get (c + 8) = _
        rw [St.get_putk]; rfl
      · show c + 8 < c + 32
        omega
  · rintro e ⟨env, st1⟩ h
    rcases h with ⟨rfl, L, a, w, rfl, g0, g5, g7, ho, hL⟩ | ⟨rfl, rfl, g2, g3⟩
    · simp only at g0 g5 g7 ho
      rcases ho with ⟨_, h0⟩ | ⟨k, rfl, hk, _⟩
      · rw [h0] at hL; simp at hL; omega
      · simp only [Z0v_, ↓Z0, ↓Xp, ↓Xt, Xq, Xc, binP, ofCells, Nat.reduceAdd, Nat.reduceMul, Nat.reduceLT, Nat.reduceEqDiff, reduceIte, g0, g5, g7, hlen]
        refine ⟨nofun, _, rfl, ?_⟩
        simp only [tupV, ↓Z0, ↓Xp, ↓Xt, Xq, Xc, binP, ofCells, Nat.reduceAdd, Nat.reduceMul, Nat.reduceLT, Nat.reduceEqDiff, reduceIte]
        exact close_evs hk
    · simp only at g2 g3
      simp only [Z0x_]
      refine ⟨nofun, [.nsl, .b false], ?_, closeRes_tup rfl⟩
      simp [mapO, resP, g2, g3]
end Go.Pe
