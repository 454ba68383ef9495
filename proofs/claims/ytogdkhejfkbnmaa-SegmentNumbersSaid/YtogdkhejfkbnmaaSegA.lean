/-
  Segments: the columns of events: what picks a number, what puts it, by the interpreter of plain data. No condition.
-/
import Derived.Test.YtogdkhejfkbnmaaEvtK
import Derived.Test.YtogdkhejfkbnmaaPe9
import Derived.Test.YtogdkhejfkbnmaaEvtI
import Derived.Test.YtogdkhejfkbnmaaEvtAs
set_option linter.unusedVariables false
set_option linter.unusedSimpArgs false
namespace Go.Pe
open Go Go.Am Go.RowKit

theorem one_fn (f : FuncId) (l : List PV) : (PV.fn f l).one = true := Eq.trans rfl rfl
theorem cells_fn (f : FuncId) (l : List PV) : (PV.fn f l).cells = [.fn f l] := Eq.trans rfl rfl
def pickF : List PV := [.fn 60 [], .fn 61 [], .fn 62 [], .fn 63 [], .fn 64 []]
def putF : List PV := [.fn 65 [], .fn 66 [], .fn 67 [], .fn 68 [], .fn 69 []]
set_option maxHeartbeats 4000000 in
set_option maxRecDepth 100000 in
theorem columns_ev {P : Program} {Gl : Gmap} {cfg : Cfg} (hok : CfgOK P Gl cfg) (hf : cfg.fn 41 = some m41) {fuel : Nat} {st : St} (ht : Top st) :
    ∃ r st', evFn cfg (fuel + 1) 41 [] st = some (r, st') ∧ r = .tup [.agg pickF, .agg putF] ∧ st.cnt ≤ st'.cnt ∧ ∀ j, j < st.cnt → st'.get j = st.get j := by
  refine evFn_W hf ?_
  unfold m41
  obtain ⟨sto, c⟩ := st
  have hN : [PV.nfn, .nfn, .nfn, .nfn, .nfn].length = 5 := rfl
  refine WC_cutT hok ht (fun x => x.env.get 0 = .ptr c 0 ∧ x.env.get 1 = .ptr (c + 8) 0 ∧ x.st.get c = some (.cells [.nfn, .nfn, .nfn, .nfn, .nfn] false) ∧ x.st.get (c + 8) = some (.cells [.nfn, .nfn, .nfn, .nfn, .nfn] false) ∧ x.st.cnt = c + 16 ∧ ∀ j, j < c → x.st.get j = St.get ⟨sto, c⟩ j) ?_ ?_
  · simp (disch := first | omega | rfl | assumption) only [putArgs, ↓Z0, ↓Xp, ↓Xt, Xq, Xc, binP, ofCells, Nat.reduceAdd, Nat.reduceMul, Nat.reduceLT, Nat.reduceEqDiff, reduceIte, Xm, Nat.reduceLeDiff, Xa, Xn]
    intro j hj
    simp (disch := first | omega | rfl | assumption) only [Z0I_]
    rfl
  rintro ⟨env, ⟨sto1, c1⟩⟩ ⟨g0, g1, k0, k1, hc, hk⟩ ht1
  simp only at g0 g1 k0 k1 hc hk ht1
  subst hc
  refine WC_cutT hok ht1 (fun x => x.env.get 0 = .ptr c 0 ∧ x.env.get 1 = .ptr (c + 8) 0 ∧ x.env.get 2 = .ptr (c + 24) 0 ∧ x.st.get c = some (.cells [.nfn, .nfn, .nfn, .nfn, .nfn] false) ∧ x.st.get (c + 8) = some (.cells [.nfn, .nfn, .nfn, .nfn, .nfn] false) ∧ x.st.get (c + 24) = some (.cells pickF false) ∧ x.st.cnt = c + 40 ∧ ∀ j, j < c → x.st.get j = St.get ⟨sto, c⟩ j) ?_ ?_
  · simp (disch := first | omega | rfl | assumption) only [↓Z0, ↓Xp, ↓Xt, Xq, Xc, binP, ofCells, Nat.reduceAdd, Nat.reduceMul, Nat.reduceLT, Nat.reduceEqDiff, reduceIte, Xm, Nat.reduceLeDiff, Xa, Xn, g0, g1, one_fn, cells_fn]
    refine ⟨?_, ?_, rfl, ?_⟩
    · exact k0
    · exact k1
    · intro j hj
      simp (disch := first | omega | rfl | assumption) only [Z0I_]
      exact hk j hj
  clear g0 g1 k0 k1 hk ht1
  rintro ⟨env, ⟨sto1, c1⟩⟩ ⟨g0, g1, g2, k0, k1, k2, hc, hk⟩ ht1
  simp only at g0 g1 g2 k0 k1 k2 hc hk ht1
  subst hc
  refine WC_cutT hok ht1 (fun x => x.env.get 0 = .ptr c 0 ∧ x.env.get 1 = .ptr (c + 8) 0 ∧ x.env.get 2 = .ptr (c + 24) 0 ∧ x.env.get 3 = .ptr (c + 48) 0 ∧ x.st.get c = some (.cells [.nfn, .nfn, .nfn, .nfn, .nfn] false) ∧ x.st.get (c + 8) = some (.cells [.nfn, .nfn, .nfn, .nfn, .nfn] false) ∧ x.st.get (c + 24) = some (.cells pickF false) ∧ x.st.get (c + 48) = some (.cells putF false) ∧ x.st.cnt = c + 64 ∧ ∀ j, j < c → x.st.get j = St.get ⟨sto, c⟩ j) ?_ ?_
  · simp (disch := first | omega | rfl | assumption) only [↓Z0, ↓Xp, ↓Xt, Xq, Xc, binP, ofCells, Nat.reduceAdd, Nat.reduceMul, Nat.reduceLT, Nat.reduceEqDiff, reduceIte, Xm, Nat.reduceLeDiff, Xa, Xn, g0, g1, g2, one_fn, cells_fn]
    refine ⟨?_, ?_, ?_, rfl, ?_⟩
    · exact k0
    · exact k1
    · exact k2
    · intro j hj
      simp (disch := first | omega | rfl | assumption) only [Z0I_]
      exact hk j hj
  clear g0 g1 g2 k0 k1 k2 hk ht1
  rintro ⟨env, ⟨sto1, c1⟩⟩ ⟨g0, g1, g2, g3, k0, k1, k2, k3, hc, hk⟩ ht1
  simp only at g0 g1 g2 g3 k0 k1 k2 k3 hc hk ht1
  subst hc
  rw [Z0]
  refine WC_chainL (evFn_ok hok _) (evFn_ok2 hok _).2 [c, c + 8] (by rfl) (ns := [false, true, false, false]) (by rfl) ht1 ?_
  have k2' : ∀ n, St.get ⟨sto1, n⟩ (c + 24) = some (.cells pickF false) := fun _ => k2
  have k3' : ∀ n, St.get ⟨sto1, n⟩ (c + 48) = some (.cells putF false) := fun _ => k3
  have k0' : ∀ n, St.get ⟨sto1, n⟩ c = some (.cells [.nfn, .nfn, .nfn, .nfn, .nfn] false) := fun _ => k0
  have k1' : ∀ n, St.get ⟨sto1, n⟩ (c + 8) = some (.cells [.nfn, .nfn, .nfn, .nfn, .nfn] false) := fun _ => k1
  have hp5 : pickF.length = 5 := rfl
  have hq5 : putF.length = 5 := rfl
  have hp1 : pickF.all PV.one = true := rfl
  have hq1 : putF.all PV.one = true := rfl
  have hpt : pickF.take 5 = pickF := rfl
  have hqt : putF.take 5 = putF := rfl
  simp (disch := first | omega | rfl | assumption) only [↓Z0, ↓Xp, ↓Xt, Xq, Xc, binP, ofCells, Nat.reduceAdd, Nat.reduceMul, Nat.reduceLT, Nat.reduceEqDiff, reduceIte, Xm, Nat.reduceLeDiff, Xa, Xn, g0, g1, g2, g3, k0', k1', k2', k3', hp5, hq5, hp1, hq1, hpt, hqt, WOC_cons, WOC_nil, okAt_l, okAt_w, postAt_q, postAt_w, selfAt_f, selfAt_t]
  simp only [okAt, postAt, quietB, pureB, loadB, lightOp, selfAt_f, selfAt_t, if_true, Bool.false_eq_true, if_false, true_implies, Bool.or_true, false_implies, and_true, true_and, List.mem_cons, List.not_mem_nil, or_false, Bool.false_or, PV.ptr.injEq, not_or, Z0I_, Z0K_]
  have hnn : St.get ⟨sto1, c + 96⟩ (c + 72) = none := ht1 (c + 72) (by show c + 64 ≤ c + 72; omega)
  refine ⟨by omega, ⟨by omega, by rintro k o ⟨rfl, _⟩; omega⟩, ⟨by rfl, by rw [hnn]; rfl⟩, ?_, ?_, nofun, [.agg pickF, .agg putF], ?_, rfl, ?_⟩
  · intro k _ h; exact Z0I_ _ _ _ _ (fun e => h.1 e.symm)
  · intro k _ h; exact Z0I_ _ _ _ _ (fun e => h.2 e.symm)
  · simp (disch := first | omega | rfl | assumption) only [mapO, resP, ↓Z0, ↓Xp, ↓Xt, Xq, Xc, binP, ofCells, Nat.reduceAdd, Nat.reduceMul, Nat.reduceLT, Nat.reduceEqDiff, reduceIte, Xm, Nat.reduceLeDiff, g0, g1, hp5, hq5, hpt, hqt]
  · intro j hj
    simp (disch := first | omega | rfl | assumption) only [Z0I_]
    exact hk j hj
def colG (k : Nat) (e : Ev) : Int := match k with
  | 0 => e.T
  | 1 => (e.O.toNat : Int)
  | 2 => e.J
  | 3 => e.A
  | _ => e.B
def pickId : Nat → Nat
  | 0 => 60
  | 1 => 61
  | 2 => 62
  | 3 => 63
  | _ => 64
def putId : Nat → Nat
  | 0 => 65
  | 1 => 66
  | 2 => 67
  | 3 => 68
  | _ => 69
theorem colpick_ev {cfg : Cfg} (hf : ∀ k, k < 5 → cfg.fn (pickId k) = lookT (pickId k) tblL) {fuel k : Nat} (hk : k < 5) {st : St} (e : Ev) :
    ∃ r st', evFn cfg (fuel + 1) (pickId k) [.agg (evC e)] st = some (r, st') ∧ r = .i .i64 (colG k e) ∧ st.cnt ≤ st'.cnt ∧ ∀ j, j < st.cnt → st'.get j = st.get j := by
  have ho := e.O.toNat_lt
  match k, hk with
  | 0, h =>
    refine evFn_W (f := 60) (m := m60) (by have := hf 0 h; exact this) ?_
    unfold m60
    simp (disch := first | omega | rfl | assumption) only [putArgs, evC, ↓Z0, ↓Xp, ↓Xt, Xq, Xc, binP, ofCells, Nat.reduceAdd, Nat.reduceMul, Nat.reduceLT, Nat.reduceEqDiff, reduceIte, Xm, Nat.reduceLeDiff, Xa, Xn]
    refine ⟨nofun, _, rfl, ?_⟩
    simp (disch := first | omega | rfl | assumption) only [tupV, ↓Z0, ↓Xp, ↓Xt, Xq, Xc, binP, ofCells, Nat.reduceAdd, Nat.reduceMul, Nat.reduceLT, Nat.reduceEqDiff, reduceIte, Xm, Nat.reduceLeDiff, Xa, Xn]
    refine ⟨rfl, fun j hj => ?_⟩
    simp (disch := first | omega | rfl | assumption) only [Z0I_]
    rfl
  | 1, h =>
    refine evFn_W (f := 61) (m := m61) (by have := hf 1 h; exact this) ?_
    unfold m61
    simp (disch := first | omega | rfl | assumption) only [putArgs, evC, ↓Z0, ↓Xp, ↓Xt, Xq, Xc, binP, ofCells, Nat.reduceAdd, Nat.reduceMul, Nat.reduceLT, Nat.reduceEqDiff, reduceIte, Xm, Nat.reduceLeDiff, Xa, Xn]
    refine ⟨nofun, _, rfl, ?_⟩
    simp (disch := first | omega | rfl | assumption) only [tupV, ↓Z0, ↓Xp, ↓Xt, Xq, Xc, binP, ofCells, Nat.reduceAdd, Nat.reduceMul, Nat.reduceLT, Nat.reduceEqDiff, reduceIte, Xm, Nat.reduceLeDiff, Xa, Xn]
    refine ⟨rfl, fun j hj => ?_⟩
    simp (disch := first | omega | rfl | assumption) only [Z0I_]
    rfl
  | 2, h =>
    refine evFn_W (f := 62) (m := m62) (by have := hf 2 h; exact this) ?_
    unfold m62
    simp (disch := first | omega | rfl | assumption) only [putArgs, evC, ↓Z0, ↓Xp, ↓Xt, Xq, Xc, binP, ofCells, Nat.reduceAdd, Nat.reduceMul, Nat.reduceLT, Nat.reduceEqDiff, reduceIte, Xm, Nat.reduceLeDiff, Xa, Xn]
    refine ⟨nofun, _, rfl, ?_⟩
    simp (disch := first | omega | rfl | assumption) only [tupV, ↓Z0, ↓Xp, ↓Xt, Xq, Xc, binP, ofCells, Nat.reduceAdd, Nat.reduceMul, Nat.reduceLT, Nat.reduceEqDiff, reduceIte, Xm, Nat.reduceLeDiff, Xa, Xn]
    refine ⟨rfl, fun j hj => ?_⟩
    simp (disch := first | omega | rfl | assumption) only [Z0I_]
    rfl
  | 3, h =>
    refine evFn_W (f := 63) (m := m63) (by have := hf 3 h; exact this) ?_
    unfold m63
    simp (disch := first | omega | rfl | assumption) only [putArgs, evC, ↓Z0, ↓Xp, ↓Xt, Xq, Xc, binP, ofCells, Nat.reduceAdd, Nat.reduceMul, Nat.reduceLT, Nat.reduceEqDiff, reduceIte, Xm, Nat.reduceLeDiff, Xa, Xn]
    refine ⟨nofun, _, rfl, ?_⟩
    simp (disch := first | omega | rfl | assumption) only [tupV, ↓Z0, ↓Xp, ↓Xt, Xq, Xc, binP, ofCells, Nat.reduceAdd, Nat.reduceMul, Nat.reduceLT, Nat.reduceEqDiff, reduceIte, Xm, Nat.reduceLeDiff, Xa, Xn]
    refine ⟨rfl, fun j hj => ?_⟩
    simp (disch := first | omega | rfl | assumption) only [Z0I_]
    rfl
  | 4, h =>
    refine evFn_W (f := 64) (m := m64) (by have := hf 4 h; exact this) ?_
    unfold m64
    simp (disch := first | omega | rfl | assumption) only [putArgs, evC, ↓Z0, ↓Xp, ↓Xt, Xq, Xc, binP, ofCells, Nat.reduceAdd, Nat.reduceMul, Nat.reduceLT, Nat.reduceEqDiff, reduceIte, Xm, Nat.reduceLeDiff, Xa, Xn]
    refine ⟨nofun, _, rfl, ?_⟩
    simp (disch := first | omega | rfl | assumption) only [tupV, ↓Z0, ↓Xp, ↓Xt, Xq, Xc, binP, ofCells, Nat.reduceAdd, Nat.reduceMul, Nat.reduceLT, Nat.reduceEqDiff, reduceIte, Xm, Nat.reduceLeDiff, Xa, Xn]
    refine ⟨rfl, fun j hj => ?_⟩
    simp (disch := first | omega | rfl | assumption) only [Z0I_]
    rfl
theorem evsC_split {L : List Ev} {i : Nat} (hi : i < L.length) : evsC L = evsC (L.take i) ++ (evC (L.getD i .zero) ++ evsC (L.drop (i + 1))) := by
  have h : L = L.take i ++ L.getD i .zero :: L.drop (i + 1) := by
    have : L.getD i .zero = L[i] := by simp [List.getD_eq_getElem?_getD, hi]
    rw [this, ← List.drop_eq_getElem_cons hi, List.take_append_drop]
  conv => lhs; rw [h]
  simp [evsC]
theorem evsC_set {L : List Ev} {i off : Nat} (hi : i < L.length) (ho : off < 5) {v : PV} {e' : Ev} (he : (evC (L.getD i .zero)).take off ++ [v] ++ (evC (L.getD i .zero)).drop (off + 1) = evC e') :
    (evsC L).take (i * 5 + off) ++ [v] ++ (evsC L).drop (i * 5 + off + 1) = evsC (L.set i e') := by
  have h1 := evsC_split hi
  have hl : (evsC (L.take i)).length = i * 5 := by rw [evsC_len, List.length_take]; congr 1; omega
  have he5 : (evC (L.getD i .zero)).length = 5 := rfl
  have h2 : L.set i e' = L.take i ++ e' :: L.drop (i + 1) := by rw [List.set_eq_take_append_cons_drop, if_pos hi]
  have h3 : evsC (L.set i e') = evsC (L.take i) ++ (evC e' ++ evsC (L.drop (i + 1))) := by rw [h2]; simp [evsC]
  rw [h3, ← he, h1]
  rw [List.take_append, List.take_of_length_le (l := evsC (L.take i)) (by omega), List.drop_append, hl, List.drop_of_length_le (l := evsC (L.take i)) (by omega)]
  rw [show i * 5 + off - i * 5 = off by omega, show i * 5 + off + 1 - i * 5 = off + 1 by omega]
  rw [List.take_append_of_le_length (by omega), List.drop_append_of_le_length (by omega)]
  simp
theorem store_col {st : St} {q : Nat} {L : List Ev} (hk : st.get q = some (.cells (evsC L) false)) {i off : Nat} (hi : i < L.length) (ho : off < 5) {kd : IntKind} {x : Int} {e' : Ev} (he : (evC (L.getD i .zero)).take off ++ [.i kd x] ++ (evC (L.getD i .zero)).drop (off + 1) = evC e') :
    storeP st 1 (.ptr q (i * 5 + off)) (.i kd x) = some (st.put q (some (.cells (evsC (L.set i e')) false))) := by
  unfold storeP
  simp only [hk, Z0O_]
  rw [if_pos ⟨rfl, by rw [evsC_len]; omega, rfl⟩]
  rw [evsC_set hi ho he]
def colS (k : Nat) (e : Ev) (n : Int) : Ev := match k with
  | 0 => { e with T := n }
  | 1 => { e with O := UInt8.ofNat (n % 256).toNat }
  | 2 => { e with J := n }
  | 3 => { e with A := n }
  | _ => { e with B := n }
def colOK (k : Nat) (n : Int) : Bool := match k with
  | 1 => decide (0 ≤ n) && decide (n ≤ 255)
  | _ => true
theorem u8_wrapM (n : Int) : IntKind.u8.wrap n = ((UInt8.ofNat (n % 256).toNat).toNat : Int) := by
  rw [IntKind.wrap_u8, UInt8.toNat_ofNat']; omega
set_option maxHeartbeats 2000000 in
theorem colput_ev {cfg : Cfg} (hf : ∀ k, k < 5 → cfg.fn (putId k) = lookT (putId k) tblL) {fuel k : Nat} (hk : k < 5) {st : St} {q : Nat} {L : List Ev} (hq : st.get q = some (.cells (evsC L) false)) {i : Nat} (hi : i < L.length) (n : Int) :
    ∃ r st', evFn cfg (fuel + 1) (putId k) [.ptr q (i * 5), .i .i64 n] st = some (r, st') ∧ r = .b (colOK k n) ∧ st'.get q = some (.cells (evsC (L.set i (colS k (L.getD i .zero) n))) false) ∧ st.cnt ≤ st'.cnt ∧ ∀ j, j ≠ q → st'.get j = st.get j := by
  match k, hk with
  | 0, h =>
    refine evFn_W (f := 65) (m := m65) (by have := hf 0 h; exact this) ?_
    unfold m65
    have hs := fun c => store_col (st := ⟨st.sto, c⟩) hq hi (off := 0) (by decide) (kd := .i64) (x := n) (e' := colS 0 (L.getD i .zero) n) (by rfl)
    try simp only [Nat.add_zero] at hs
    simp (disch := first | omega | rfl | assumption) only [putArgs, ↓Z0, ↓Xp, ↓Xt, Xq, Xc, binP, ofCells, Nat.reduceAdd, Nat.reduceMul, Nat.reduceLT, Nat.reduceEqDiff, reduceIte, Xl, Nat.reduceLeDiff, Xa, Xn, hs]
    refine ⟨nofun, _, rfl, ?_⟩
    simp (disch := first | omega | rfl | assumption) only [tupV, ↓Z0, ↓Xp, ↓Xt, Xq, Xc, binP, ofCells, Nat.reduceAdd, Nat.reduceMul, Nat.reduceLT, Nat.reduceEqDiff, reduceIte, Xl, Nat.reduceLeDiff, Xa, Xn]
    (repeat' apply And.intro) <;> first | rfl | omega | (simp [colOK, *]; done) | (intro j hj; simp (disch := first | omega | rfl | assumption) only [Z0I_]; rfl)
  | 1, h =>
    refine evFn_W (f := 66) (m := m66) (by have := hf 1 h; exact this) ?_
    unfold m66
    have hs := fun c => store_col (st := ⟨st.sto, c⟩) hq hi (off := 1) (by decide) (kd := .u8) (x := IntKind.u8.wrap n) (e' := colS 1 (L.getD i .zero) n) (by rw [u8_wrapM]; rfl)
    try simp only [Nat.add_zero] at hs
    by_cases h0 : 0 ≤ n
    · by_cases h1 : n ≤ 255
      · rw [wr_u8 n ⟨h0, by omega⟩] at hs
        simp (disch := first | omega | rfl | assumption) only [putArgs, ↓Z0, ↓Xp, ↓Xt, Xq, Xc, binP, ofCells, Nat.reduceAdd, Nat.reduceMul, Nat.reduceLT, Nat.reduceEqDiff, reduceIte, Xl, Nat.reduceLeDiff, Xa, Xn, hs]
        refine ⟨nofun, _, rfl, ?_⟩
        simp (disch := first | omega | rfl | assumption) only [tupV, ↓Z0, ↓Xp, ↓Xt, Xq, Xc, binP, ofCells, Nat.reduceAdd, Nat.reduceMul, Nat.reduceLT, Nat.reduceEqDiff, reduceIte, Xl, Nat.reduceLeDiff, Xa, Xn]
        (repeat' apply And.intro) <;> first | rfl | omega | (simp [colOK, *]; done) | (intro j hj; simp (disch := first | omega | rfl | assumption) only [Z0I_]; rfl)
      · simp (disch := first | omega | rfl | assumption) only [putArgs, ↓Z0, ↓Xp, ↓Xt, Xq, Xc, binP, ofCells, Nat.reduceAdd, Nat.reduceMul, Nat.reduceLT, Nat.reduceEqDiff, reduceIte, Xl, Nat.reduceLeDiff, Xa, Xn, hs]
        refine ⟨nofun, _, rfl, ?_⟩
        simp (disch := first | omega | rfl | assumption) only [tupV, ↓Z0, ↓Xp, ↓Xt, Xq, Xc, binP, ofCells, Nat.reduceAdd, Nat.reduceMul, Nat.reduceLT, Nat.reduceEqDiff, reduceIte, Xl, Nat.reduceLeDiff, Xa, Xn]
        (repeat' apply And.intro) <;> first | rfl | omega | (simp [colOK, *]; done) | (intro j hj; simp (disch := first | omega | rfl | assumption) only [Z0I_]; rfl)
    · simp (disch := first | omega | rfl | assumption) only [putArgs, ↓Z0, ↓Xp, ↓Xt, Xq, Xc, binP, ofCells, Nat.reduceAdd, Nat.reduceMul, Nat.reduceLT, Nat.reduceEqDiff, reduceIte, Xl, Nat.reduceLeDiff, Xa, Xn, hs]
      refine ⟨nofun, _, rfl, ?_⟩
      simp (disch := first | omega | rfl | assumption) only [tupV, ↓Z0, ↓Xp, ↓Xt, Xq, Xc, binP, ofCells, Nat.reduceAdd, Nat.reduceMul, Nat.reduceLT, Nat.reduceEqDiff, reduceIte, Xl, Nat.reduceLeDiff, Xa, Xn]
      (repeat' apply And.intro) <;> first | rfl | omega | (simp [colOK, *]; done) | (intro j hj; simp (disch := first | omega | rfl | assumption) only [Z0I_]; rfl)
  | 2, h =>
    refine evFn_W (f := 67) (m := m67) (by have := hf 2 h; exact this) ?_
    unfold m67
    have hs := fun c => store_col (st := ⟨st.sto, c⟩) hq hi (off := 2) (by decide) (kd := .i64) (x := n) (e' := colS 2 (L.getD i .zero) n) (by rfl)
    try simp only [Nat.add_zero] at hs
    simp (disch := first | omega | rfl | assumption) only [putArgs, ↓Z0, ↓Xp, ↓Xt, Xq, Xc, binP, ofCells, Nat.reduceAdd, Nat.reduceMul, Nat.reduceLT, Nat.reduceEqDiff, reduceIte, Xl, Nat.reduceLeDiff, Xa, Xn, hs]
    refine ⟨nofun, _, rfl, ?_⟩
    simp (disch := first | omega | rfl | assumption) only [tupV, ↓Z0, ↓Xp, ↓Xt, Xq, Xc, binP, ofCells, Nat.reduceAdd, Nat.reduceMul, Nat.reduceLT, Nat.reduceEqDiff, reduceIte, Xl, Nat.reduceLeDiff, Xa, Xn]
    (repeat' apply And.intro) <;> first | rfl | omega | (simp [colOK, *]; done) | (intro j hj; simp (disch := first | omega | rfl | assumption) only [Z0I_]; rfl)
  | 3, h =>
    refine evFn_W (f := 68) (m := m68) (by have := hf 3 h; exact this) ?_
    unfold m68
    have hs := fun c => store_col (st := ⟨st.sto, c⟩) hq hi (off := 3) (by decide) (kd := .i64) (x := n) (e' := colS 3 (L.getD i .zero) n) (by rfl)
    try simp only [Nat.add_zero] at hs
    simp (disch := first | omega | rfl | assumption) only [putArgs, ↓Z0, ↓Xp, ↓Xt, Xq, Xc, binP, ofCells, Nat.reduceAdd, Nat.reduceMul, Nat.reduceLT, Nat.reduceEqDiff, reduceIte, Xl, Nat.reduceLeDiff, Xa, Xn, hs]
    refine ⟨nofun, _, rfl, ?_⟩
    simp (disch := first | omega | rfl | assumption) only [tupV, ↓Z0, ↓Xp, ↓Xt, Xq, Xc, binP, ofCells, Nat.reduceAdd, Nat.reduceMul, Nat.reduceLT, Nat.reduceEqDiff, reduceIte, Xl, Nat.reduceLeDiff, Xa, Xn]
    (repeat' apply And.intro) <;> first | rfl | omega | (simp [colOK, *]; done) | (intro j hj; simp (disch := first | omega | rfl | assumption) only [Z0I_]; rfl)
  | 4, h =>
    refine evFn_W (f := 69) (m := m69) (by have := hf 4 h; exact this) ?_
    unfold m69
    have hs := fun c => store_col (st := ⟨st.sto, c⟩) hq hi (off := 4) (by decide) (kd := .i64) (x := n) (e' := colS 4 (L.getD i .zero) n) (by rfl)
    try simp only [Nat.add_zero] at hs
    simp (disch := first | omega | rfl | assumption) only [putArgs, ↓Z0, ↓Xp, ↓Xt, Xq, Xc, binP, ofCells, Nat.reduceAdd, Nat.reduceMul, Nat.reduceLT, Nat.reduceEqDiff, reduceIte, Xl, Nat.reduceLeDiff, Xa, Xn, hs]
    refine ⟨nofun, _, rfl, ?_⟩
    simp (disch := first | omega | rfl | assumption) only [tupV, ↓Z0, ↓Xp, ↓Xt, Xq, Xc, binP, ofCells, Nat.reduceAdd, Nat.reduceMul, Nat.reduceLT, Nat.reduceEqDiff, reduceIte, Xl, Nat.reduceLeDiff, Xa, Xn]
    (repeat' apply And.intro) <;> first | rfl | omega | (simp [colOK, *]; done) | (intro j hj; simp (disch := first | omega | rfl | assumption) only [Z0I_]; rfl)
end Go.Pe
