/-
 Segments: the denser coding read, by the interpreter of plain data. No condition.
-/
import Derived.Test.YtogdkhejfkbnmaaSegD
set_option linter.unusedVariables false
set_option linter.unusedSimpArgs false
set_option maxHeartbeats 16000000
set_option maxRecDepth 100000
namespace Go.Pe
open Go Go.Am Go.RowKit

def NcK (m : List UInt8) : List Nat → Int → List Ev → Option (List Ev × Int)
 | [], a, L => some (L, a)
 | k :: ks, a, L => match NgQ m k L.length L.length 0 0 true a with
   | none => none
   | some (vs, a') => NcK m ks a' (NiY k L vs)
def ksF : Nat → List Nat
 | 0 => [0, 1, 2, 3, 4]
 | 1 => [1, 2, 3, 4]
 | 2 => [2, 3, 4]
 | 3 => [3, 4]
 | 4 => [4]
 | _ => []
theorem Njj {k : Nat} (hk : k < 5) : ksF k = k :: ksF (k + 1) := by
 match k, hk with
 | 0, _ => rfl
 | 1, _ => rfl
 | 2, _ => rfl
 | 3, _ => rfl
 | 4, _ => rfl
def NhJ (m : List UInt8) : Option (Nat × List Ev) :=
 if (m.take 4 == amd1) = false then none
 else if (Nax m 4).2.2 ≠ 0 ∨ 4611686018427387904 < (Nax m 4).1 then none
 else if (Nax m (Nax m 4).2.1).2.2 ≠ 0 ∨ (Nax m (Nax m 4).2.1).1 < 1 ∨ 1048576 < (Nax m (Nax m 4).2.1).1 then none
 else match NcK m (ksF 0) (Nax m (Nax m 4).2.1).2.1 (List.replicate (Nax m (Nax m 4).2.1).1 .zero) with
  | none => none
  | some (L, a) => if a < (m.length : Int) then none else some ((Nax m 4).1, L)
def NgH (b : List UInt8) : Sum (Nat × List Ev) Int :=
 if b.length < 4 then .inr 11
 else if NaD (b.take (b.length - 4)) = b then (match NhJ (b.take (b.length - 4)) with | some x => .inl x | none => .inr 10)
 else .inr 12
def Nck (b : List UInt8) : PV := match NgH b with
 | .inl (n, L) => .tup [.i .i64 (n : Int), .osl 5 L.length (Nay L), .i .i64 0]
 | .inr e => .tup [.i .i64 0, .nsl, .i .i64 e]
theorem Nhd (n : Nat) : List.flatten (List.replicate n [PV.i .i64 (Int.ofNat 0), .i .u8 (Int.ofNat 0), .i .i64 (Int.ofNat 0), .i .i64 (Int.ofNat 0), .i .i64 (Int.ofNat 0)]) = Nay (List.replicate n .zero) := by
 induction n with
 | zero => rfl
 | succ n ih => rw [List.replicate_succ, List.flatten_cons, ih, List.replicate_succ]; rfl
theorem NbQ (L : List Ev) : clO (Nay L) = true := by
 unfold clO
 rw [List.all_eq_true]
 intro p hp
 simp only [Nay, List.mem_flatMap] at hp
 obtain ⟨e, _, hp⟩ := hp
 simp only [evC, List.mem_cons, List.not_mem_nil, or_false] at hp
 rcases hp with rfl | rfl | rfl | rfl | rfl <;> rfl
theorem NbN {st : St} {a b : Int} : Naq st (.tup [.i .i64 a, .nsl, .i .i64 b]) = some (.tup [.i .i64 a, .nsl, .i .i64 b]) := Nal rfl
theorem Nmg {P : Program} {Gl : Gmap} {cfg : Cfg} (hok : CfgOK P Gl cfg) (hf : cfg.fn 20 = some m20) (hfc : cfg.fn 41 = some m41) (hxc : cfg.ext 41 = none) (hfk : cfg.fn 46 = some m46) (hxk : cfg.ext 46 = none)
 (hfp : ∀ k, k < 5 → cfg.fn (NbK k) = Nbr (NbK k) tblL) (hxp : ∀ k, k < 5 → cfg.ext (NbK k) = none) (hx1 : cfg.ext 75 = some NfI) (hx2 : cfg.ext 45 = some NcM) (hx3 : cfg.ext 43 = some Ncj) (hx4 : cfg.ext 44 = some Nm0)
 {v : PV} {b : List UInt8} (hv : inL v = some b) (hb : b.length ≤ 140737488355000) {fuel : Nat} (hfu : 1048600 ≤ fuel) :
 ∃ r st', NaB cfg (fuel + 1 + 1 + 1) 20 [v] { sto := .leaf, cnt := 1 } = some (r, st') ∧ Naq st' r = some (Nck b) := by
 refine Naw hf ?_
 unfold m20
 have ht0 : Top { sto := .leaf, cnt := 1 } := fun k _ => NnG _ _
 have hdv : ∀ st, NaU st [v] = some [v] := fun st => NaA (by simp only [List.all_cons, Na3 hv, List.all_nil, Bool.and_self])
 have gU : Nag cfg (NaB cfg (fuel + 1 + 1)) 43 [v] = some (Nb5 b) := by
  rw [Nad hx3]
  unfold Ncj
  simp only [hv]
  rw [if_pos (by omega)]
 unfold Nck NgH
 unfold Nb5 at gU
 by_cases h1 : b.length < 4
 ·rw [if_pos h1] at gU ⊢
  have c2 : ∀ (st : St) (key : Nat), Naf (Nag cfg (NaB cfg (fuel + 1 + 1)) 43) false st key [v] = some (.tup [.nsl, .i .i64 11], st) := fun st key => Nas (hdv st) gU rfl
  simp (disch := first | omega | rfl | assumption) only [Nae, ↓Z0, ↓Xp, ↓Xt, Xq, Xc, Nac, Naa, Nat.reduceAdd, Nat.reduceMul, Nat.reduceLT, Nat.reduceEqDiff, reduceIte, Xm, Nat.reduceLeDiff, Xa, Xn, c2]
  refine ⟨nofun, _, rfl, ?_⟩
  simp only [Naz, ↓Z0, ↓Xp, ↓Xt, Xq, Xc, Nac, Naa, Nat.reduceAdd, Nat.reduceMul, Nat.reduceLT, Nat.reduceEqDiff, reduceIte]
  exact NbN
 rw [if_neg h1] at gU ⊢
 obtain ⟨m, hm⟩ : ∃ m, b.take (b.length - 4) = m := ⟨_, rfl⟩
 rw [hm] at gU ⊢
 have hml : m.length + 4 = b.length := by rw [← hm, List.length_take]; omega
 by_cases h2 : NaD m = b
 case neg =>
  rw [if_neg h2] at gU ⊢
  have c2 : ∀ (st : St) (key : Nat), Naf (Nag cfg (NaB cfg (fuel + 1 + 1)) 43) false st key [v] = some (.tup [.nsl, .i .i64 12], st) := fun st key => Nas (hdv st) gU rfl
  simp (disch := first | omega | rfl | assumption) only [Nae, ↓Z0, ↓Xp, ↓Xt, Xq, Xc, Nac, Naa, Nat.reduceAdd, Nat.reduceMul, Nat.reduceLT, Nat.reduceEqDiff, reduceIte, Xm, Nat.reduceLeDiff, Xa, Xn, c2]
  refine ⟨nofun, _, rfl, ?_⟩
  simp only [Naz, ↓Z0, ↓Xp, ↓Xt, Xq, Xc, Nac, Naa, Nat.reduceAdd, Nat.reduceMul, Nat.reduceLT, Nat.reduceEqDiff, reduceIte]
  exact NbN
 rw [if_pos h2] at gU ⊢
 have cp : ∀ (st : St) key, Naf (Nag cfg (NaB cfg (fuel + 1 + 1)) 44) false st key [.s m, .s amd1] = some (.b (m.take 4 == amd1), st) := by
  intro st key
  refine Nap rfl ?_ rfl
  rw [Nad hx4]; rfl
 have hamd : ([65, 77, 68, 49] : List UInt8) = amd1 := rfl
 have hbm := NaW m
 by_cases h0 : m = []
 ·subst h0
  have gU0 : Nag cfg (NaB cfg (fuel + 1 + 1)) 43 [v] = some (.tup [.fsl 0 [], .i .i64 0]) := gU
  have c2 : ∀ (st : St) (key : Nat), Naf (Nag cfg (NaB cfg (fuel + 1 + 1)) 43) false st key [v] = some (.tup [.fsl 0 [], .i .i64 0], st) := fun st key => Nas (hdv st) gU0 rfl
  have hcc : ∀ st, cellsOf st 1 (.fsl 0 []) = some (0, Nab []) := fun _ => rfl
  have hpf : (([] : List UInt8).take 4 == amd1) = false := rfl
  rw [hpf] at cp
  simp (disch := first | omega | rfl | assumption) only [Nae, ↓Z0, ↓Xp, ↓Xt, Xq, Xc, Nac, Naa, Nat.reduceAdd, Nat.reduceMul, Nat.reduceLT, Nat.reduceEqDiff, reduceIte, Xm, Nat.reduceLeDiff, Xa, Xn, c2, hcc, hbm, hamd, cp, unP]
  refine ⟨nofun, _, rfl, ?_⟩
  simp only [Naz, ↓Z0, ↓Xp, ↓Xt, Xq, Xc, Nac, Naa, Nat.reduceAdd, Nat.reduceMul, Nat.reduceLT, Nat.reduceEqDiff, reduceIte]
  exact NbN
 have gU1 : Nag cfg (NaB cfg (fuel + 1 + 1)) 43 [v] = some (.tup ([] ++ PV.osl 1 m.length (Nab m) :: [.i .i64 0])) := by
  rw [gU]; unfold NkS; rw [if_neg h0]; rfl
 refine Nbn hok ht0 (fun x => x.env.get 0 = v) ?_ ?_
 ·simp (disch := first | omega | rfl | assumption) only [Nae, ↓Z0, ↓Xp, ↓Xt, Xq, Xc, Nac, Naa, Nat.reduceAdd, Nat.reduceMul, Nat.reduceLT, Nat.reduceEqDiff, reduceIte]
 rintro ⟨env, ⟨sto, c⟩⟩ g0 ht1
 simp only at g0 ht1
 refine Nbn hok ht1 (fun x => ∃ kw, x.env.get 5 = .rsl kw 1 0 m.length ∧ x.env.get 6 = .i .i64 0 ∧ x.st.get kw = some (.cells (Nab m) false) ∧ kw < x.st.cnt) ?_ ?_
 ·simp (disch := first | omega | rfl | assumption) only [↓Z0, ↓Xp, ↓Xt, Xq, Xc, Nac, Naa, Nat.reduceAdd, Nat.reduceMul, Nat.reduceLT, Nat.reduceEqDiff, reduceIte, g0]
  refine Nbs (hdv _) gU1 (OutV.osl _ _ _) rfl rfl (Nbh m) (by rw [Nai, Nat.mul_one]) (by first | omega | (simp only [Z0L_, Nb2, Nat.add_assoc, Nat.reduceAdd]; omega) | (simp only; omega)) ?_
  intro v' st1 o1 k1 c1 f1
  obtain ⟨kw, rfl, hkw, _, hkc⟩ := o1.obj (fun h => h0 (List.length_eq_zero_iff.1 h))
  simp (disch := first | omega | rfl | assumption) only [↓Z0, ↓Xp, ↓Xt, Xq, Xc, Nac, Naa, Nat.reduceAdd, Nat.reduceMul, Nat.reduceLT, Nat.reduceEqDiff, reduceIte, List.nil_append, List.getElem?_cons_zero, List.getElem?_cons_succ]
  exact ⟨kw, rfl, hkw, hkc⟩
 clear g0 ht1
 rintro ⟨env, ⟨sto, c⟩⟩ ⟨kw, g5, g6, kk, hkc⟩ ht1
 simp only at g5 g6 kk hkc ht1
 refine Nbn hok ht1 (fun x => x.env.get 5 = .rsl kw 1 0 m.length ∧ x.st.get kw = some (.cells (Nab m) false) ∧ kw < x.st.cnt) ?_ ?_
 ·simp (disch := first | omega | rfl | assumption) only [↓Z0, ↓Xp, ↓Xt, Xq, Xc, Nac, Naa, Nat.reduceAdd, Nat.reduceMul, Nat.reduceLT, Nat.reduceEqDiff, reduceIte, Xa, Xn, g5, g6]
  (repeat' (first | exact True.intro | rfl | assumption | omega | apply And.intro))
 clear g5 g6 ht1 kk hkc
 rintro ⟨env, ⟨sto, c⟩⟩ ⟨g5, kk, hkc⟩ ht1
 simp only at g5 kk hkc ht1
 unfold NhJ
 have hcw : ∀ n, cellsOf ⟨sto, n⟩ 1 (.rsl kw 1 0 m.length) = some (m.length, Nab m) := fun n => NgC (fz := false) kk
 by_cases h3 : (m.take 4 == amd1) = false
 ·rw [if_pos h3]
  rw [h3] at cp
  simp (disch := first | omega | rfl | assumption) only [↓Z0, ↓Xp, ↓Xt, Xq, Xc, Nac, Naa, Nat.reduceAdd, Nat.reduceMul, Nat.reduceLT, Nat.reduceEqDiff, reduceIte, Xa, Xn, g5, hcw, hbm, hamd, cp, unP]
  refine ⟨nofun, _, rfl, ?_⟩
  simp only [Naz, ↓Z0, ↓Xp, ↓Xt, Xq, Xc, Nac, Naa, Nat.reduceAdd, Nat.reduceMul, Nat.reduceLT, Nat.reduceEqDiff, reduceIte]
  exact NbN
 have h3' : (m.take 4 == amd1) = true := by simpa using h3
 rw [if_neg h3]
 rw [h3'] at cp
 refine Nbn hok ht1 (fun x => x.env.get 5 = .rsl kw 1 0 m.length ∧ x.st.get kw = some (.cells (Nab m) false) ∧ kw < x.st.cnt) ?_ ?_
 ·simp (disch := first | omega | rfl | assumption) only [↓Z0, ↓Xp, ↓Xt, Xq, Xc, Nac, Naa, Nat.reduceAdd, Nat.reduceMul, Nat.reduceLT, Nat.reduceEqDiff, reduceIte, Xa, Xn, g5, hcw, hbm, hamd, cp, unP]
  (repeat' (first | exact True.intro | rfl | assumption | omega | apply And.intro))
 clear g5 ht1 kk hkc hcw
 rintro ⟨env, ⟨sto, c⟩⟩ ⟨g5, kk, hkc⟩ ht1
 simp only at g5 kk hkc ht1
 have cu : ∀ (st : St) (hk : st.get kw = some (.cells (Nab m) false)) (key : Nat) (a : Int), Naf (Nag cfg (NaB cfg (fuel + 1 + 1)) 45) false st key [.rsl kw 1 0 m.length, .i .i64 a] = some (.tup [.i .u64 ((Nax m a).1 : Int), .i .i64 (Nax m a).2.1, .i .i64 (Nax m a).2.2], st) := by
  intro st hk key a
  refine Nb1 (Neo (Nej (fz := false) hk) (Ndx st .i64 a)) ?_ rfl rfl
  rw [Nad hx2]
  unfold NcM
  simp only [NbD]
  rw [if_pos (by omega)]
  rfl
 have cu4 := fun n key => cu ⟨sto, n⟩ kk key ((4 : Nat) : Int)
 have hU4 : Nax m ((4 : Nat) : Int) = Nax m 4 := rfl
 simp only [hU4] at cu4
 have hlt1 := Nbx m 4
 generalize Nax m 4 = p1 at cu4 hlt1 ⊢
 obtain ⟨n1, x1, e1⟩ := p1
 simp only at cu4 hlt1 ⊢
 refine Nbn hok ht1 (fun x => x.env.get 5 = .rsl kw 1 0 m.length ∧ x.env.get 7 = .i .u64 (n1 : Int) ∧ x.env.get 8 = .i .i64 x1 ∧ x.env.get 6 = .i .i64 e1 ∧ x.st.get kw = some (.cells (Nab m) false) ∧ kw < x.st.cnt) ?_ ?_
 ·simp (disch := first | omega | rfl | assumption) only [↓Z0, ↓Xp, ↓Xt, Xq, Xc, Nac, Naa, Nat.reduceAdd, Nat.reduceMul, Nat.reduceLT, Nat.reduceEqDiff, reduceIte, Xm, Nat.reduceLeDiff, Xa, Xn, g5, cu4]
  (repeat' (first | exact True.intro | rfl | assumption | omega | apply And.intro))
 clear g5 ht1 kk hkc cu4
 rintro ⟨env, ⟨sto, c⟩⟩ ⟨g5, g7, g8, g6, kk, hkc⟩ ht1
 simp only at g5 g7 g8 g6 kk hkc ht1
 by_cases h4 : e1 ≠ 0 ∨ 4611686018427387904 < n1
 ·rw [if_pos h4]
  by_cases h4a : e1 = 0
  ·have h4b : 4611686018427387904 < n1 := by omega
   simp (disch := first | omega | rfl | assumption) only [↓Z0, ↓Xp, ↓Xt, Xq, Xc, Nac, Naa, Nat.reduceAdd, Nat.reduceMul, Nat.reduceLT, Nat.reduceEqDiff, reduceIte, Xa, Xn, g5, g6, g7, g8]
   refine ⟨nofun, _, rfl, ?_⟩
   simp only [Naz, ↓Z0, ↓Xp, ↓Xt, Xq, Xc, Nac, Naa, Nat.reduceAdd, Nat.reduceMul, Nat.reduceLT, Nat.reduceEqDiff, reduceIte]
   exact NbN
  ·simp (disch := first | omega | rfl | assumption) only [↓Z0, ↓Xp, ↓Xt, Xq, Xc, Nac, Naa, Nat.reduceAdd, Nat.reduceMul, Nat.reduceLT, Nat.reduceEqDiff, reduceIte, Xa, Xn, g5, g6, g7, g8]
   refine ⟨nofun, _, rfl, ?_⟩
   simp only [Naz, ↓Z0, ↓Xp, ↓Xt, Xq, Xc, Nac, Naa, Nat.reduceAdd, Nat.reduceMul, Nat.reduceLT, Nat.reduceEqDiff, reduceIte]
   exact NbN
 rw [if_neg h4]
 refine Nbn hok ht1 (fun x => x.env.get 5 = .rsl kw 1 0 m.length ∧ x.env.get 7 = .i .u64 (n1 : Int) ∧ x.env.get 8 = .i .i64 x1 ∧ x.st.get kw = some (.cells (Nab m) false) ∧ kw < x.st.cnt) ?_ ?_
 ·simp (disch := first | omega | rfl | assumption) only [↓Z0, ↓Xp, ↓Xt, Xq, Xc, Nac, Naa, Nat.reduceAdd, Nat.reduceMul, Nat.reduceLT, Nat.reduceEqDiff, reduceIte, Xa, Xn, g5, g6, g7, g8]
  (repeat' (first | exact True.intro | rfl | assumption | omega | apply And.intro))
 clear g5 g6 g7 g8 ht1 kk hkc
 rintro ⟨env, ⟨sto, c⟩⟩ ⟨g5, g7, g8, kk, hkc⟩ ht1
 simp only at g5 g7 g8 kk hkc ht1
 have cu4 := fun n key => cu ⟨sto, n⟩ kk key x1
 have hlt2 := Nbx m x1
 generalize Nax m x1 = p2 at cu4 hlt2 ⊢
 obtain ⟨n2, x2, e2⟩ := p2
 simp only at cu4 hlt2 ⊢
 refine Nbn hok ht1 (fun x => x.env.get 5 = .rsl kw 1 0 m.length ∧ x.env.get 7 = .i .u64 (n1 : Int) ∧ x.env.get 9 = .i .u64 (n2 : Int) ∧ x.env.get 10 = .i .i64 x2 ∧ x.env.get 6 = .i .i64 e2 ∧ x.st.get kw = some (.cells (Nab m) false) ∧ kw < x.st.cnt) ?_ ?_
 ·simp (disch := first | omega | rfl | assumption) only [↓Z0, ↓Xp, ↓Xt, Xq, Xc, Nac, Naa, Nat.reduceAdd, Nat.reduceMul, Nat.reduceLT, Nat.reduceEqDiff, reduceIte, Xm, Nat.reduceLeDiff, Xa, Xn, g5, g7, g8, cu4]
  (repeat' (first | exact True.intro | rfl | assumption | omega | apply And.intro))
 clear g5 g7 g8 ht1 kk hkc cu4
 rintro ⟨env, ⟨sto, c⟩⟩ ⟨g5, g7, g9, g10, g6, kk, hkc⟩ ht1
 simp only at g5 g7 g9 g10 g6 kk hkc ht1
 by_cases h5 : e2 ≠ 0 ∨ n2 < 1 ∨ 1048576 < n2
 ·rw [if_pos h5]
  by_cases h5a : e2 = 0
  ·by_cases h5b : n2 < 1
   ·simp (disch := first | omega | rfl | assumption) only [↓Z0, ↓Xp, ↓Xt, Xq, Xc, Nac, Naa, Nat.reduceAdd, Nat.reduceMul, Nat.reduceLT, Nat.reduceEqDiff, reduceIte, Xa, Xn, g5, g6, g7, g9, g10]
    refine ⟨nofun, _, rfl, ?_⟩
    simp only [Naz, ↓Z0, ↓Xp, ↓Xt, Xq, Xc, Nac, Naa, Nat.reduceAdd, Nat.reduceMul, Nat.reduceLT, Nat.reduceEqDiff, reduceIte]
    exact NbN
   ·have h5c : 1048576 < n2 := by omega
    simp (disch := first | omega | rfl | assumption) only [↓Z0, ↓Xp, ↓Xt, Xq, Xc, Nac, Naa, Nat.reduceAdd, Nat.reduceMul, Nat.reduceLT, Nat.reduceEqDiff, reduceIte, Xa, Xn, g5, g6, g7, g9, g10]
    refine ⟨nofun, _, rfl, ?_⟩
    simp only [Naz, ↓Z0, ↓Xp, ↓Xt, Xq, Xc, Nac, Naa, Nat.reduceAdd, Nat.reduceMul, Nat.reduceLT, Nat.reduceEqDiff, reduceIte]
    exact NbN
  ·simp (disch := first | omega | rfl | assumption) only [↓Z0, ↓Xp, ↓Xt, Xq, Xc, Nac, Naa, Nat.reduceAdd, Nat.reduceMul, Nat.reduceLT, Nat.reduceEqDiff, reduceIte, Xa, Xn, g5, g6, g7, g9, g10]
   refine ⟨nofun, _, rfl, ?_⟩
   simp only [Naz, ↓Z0, ↓Xp, ↓Xt, Xq, Xc, Nac, Naa, Nat.reduceAdd, Nat.reduceMul, Nat.reduceLT, Nat.reduceEqDiff, reduceIte]
   exact NbN
 rw [if_neg h5]
 refine Nbn hok ht1 (fun x => x.env.get 5 = .rsl kw 1 0 m.length ∧ x.env.get 7 = .i .u64 (n1 : Int) ∧ x.env.get 9 = .i .u64 (n2 : Int) ∧ x.env.get 10 = .i .i64 x2 ∧ x.st.get kw = some (.cells (Nab m) false) ∧ kw < x.st.cnt) ?_ ?_
 ·simp (disch := first | omega | rfl | assumption) only [↓Z0, ↓Xp, ↓Xt, Xq, Xc, Nac, Naa, Nat.reduceAdd, Nat.reduceMul, Nat.reduceLT, Nat.reduceEqDiff, reduceIte, Xa, Xn, g5, g6, g7, g9, g10]
  (repeat' (first | exact True.intro | rfl | assumption | omega | apply And.intro))
 clear g5 g6 g7 g9 g10 ht1 kk hkc
 rintro ⟨env, ⟨sto, c⟩⟩ ⟨g5, g7, g9, g10, kk, hkc⟩ ht1
 simp only at g5 g7 g9 g10 kk hkc ht1
 have hmb : maxBytes = 140737488355328 := rfl
 refine Nbn hok ht1 (fun x => ∃ q, q ≠ kw ∧ x.env.get 5 = .rsl kw 1 0 m.length ∧ x.env.get 7 = .i .u64 (n1 : Int) ∧ x.env.get 10 = .i .i64 x2 ∧ x.env.get 11 = .rsl q 5 0 n2 ∧ x.st.get q = some (.cells (Nay (List.replicate n2 .zero)) false) ∧ q < x.st.cnt ∧ x.st.get kw = some (.cells (Nab m) false) ∧ kw < x.st.cnt) ?_ ?_
 ·simp (disch := first | omega | rfl | assumption) only [↓Z0, ↓Xp, ↓Xt, Xq, Xc, Nac, Naa, Nat.reduceAdd, Nat.reduceMul, Nat.reduceLT, Nat.reduceEqDiff, reduceIte, Xm, Nat.reduceLeDiff, g5, g7, g9, g10, Nhd]
  refine ⟨⟨by omega, by omega⟩, c + 8, by omega, rfl, by rw [NkR], by omega, kk, by omega⟩
 clear g5 g7 g9 g10 ht1 kk hkc
 rintro ⟨env, ⟨sto, c⟩⟩ ⟨q, hqk, g5, g7, g10, g11, kq, hqc, kk, hkc⟩ ht1
 simp only at g5 g7 g10 g11 kq hqc kk hkc ht1
 refine Nbn hok ht1 (fun x => ∃ kp, x.env.get 5 = .rsl kw 1 0 m.length ∧ x.env.get 7 = .i .u64 (n1 : Int) ∧ x.env.get 10 = .i .i64 x2 ∧ x.env.get 11 = .rsl q 5 0 n2 ∧ x.st.get q = some (.cells (Nay (List.replicate n2 .zero)) false) ∧ q < x.st.cnt ∧ x.st.get kw = some (.cells (Nab m) false) ∧ kw < x.st.cnt ∧ x.env.get 13 = .ptr kp 0 ∧ x.st.get kp = some (.cells putF false)) ?_ ?_
 ·simp (disch := first | omega | rfl | assumption) only [↓Z0, ↓Xp, ↓Xt, Xq, Xc, Nac, Naa, Nat.reduceAdd, Nat.reduceMul, Nat.reduceLT, Nat.reduceEqDiff, reduceIte, hxc]
  refine Nj6 (NfO hok hfc (st := ⟨sto, c + 64⟩) (ht1.le (by omega))) ?_
  rintro _ st1 ⟨rfl, c1, f1⟩
  simp only at c1 f1
  have hp5 : pickF.length = 5 := rfl
  have hq5 : putF.length = 5 := rfl
  have hp1 : pickF.all PV.one = true := rfl
  have hq1 : putF.all PV.one = true := rfl
  simp (disch := first | omega | rfl | assumption) only [↓Z0, ↓Xp, ↓Xt, Xq, Xc, Nac, Naa, Nat.reduceAdd, Nat.reduceMul, Nat.reduceLT, Nat.reduceEqDiff, reduceIte, Xm, Nat.reduceLeDiff, hp5, hq5, hp1, hq1]
  refine ⟨c + 40, g5, g7, g10, g11, ?_, by omega, ?_, by omega, rfl, by simp (disch := first | omega | rfl | assumption) only [NkR, Z0I_]⟩
  ·try simp (disch := first | omega | rfl | assumption) only [Z0I_]
   rw [f1 q (by omega)]; exact kq
  ·try simp (disch := first | omega | rfl | assumption) only [Z0I_]
   rw [f1 kw (by omega)]; exact kk
 clear g5 g7 g10 g11 ht1 kk hkc kq hqc
 rintro ⟨env, ⟨sto, c⟩⟩ ⟨kp, g5, g7, g10, g11, kq, hqc, kk, hkc, g13, k13⟩ ht1
 simp only at g5 g7 g10 g11 kq hqc kk hkc g13 k13 ht1
 obtain ⟨RES, hRES⟩ : ∃ R, NcK m (ksF 0) x2 (List.replicate n2 .zero) = R := ⟨_, rfl⟩
 rw [hRES]
 have hd : ∀ (st st2 : St), q ≠ kw → st.get kw = some (.cells (Nab m) false) → kw < st.cnt → (∀ j, j < st.cnt → j ≠ q → st2.get j = st.get j) → ∃ v', deep st2 12 (.rsl kw 1 0 m.length) = some v' ∧ inL v' = some m := by
  intro st st2 h1 h2 h3 h4
  exact ⟨_, Nej (fz := false) (by rw [h4 kw h3 (fun e => h1 e.symm)]; exact h2), NbD m⟩
 refine Nec (fun x => ∃ (L : List Ev) (a : Int), RES = some (L, a) ∧ L.length = n2 ∧ x.env.get 5 = .rsl kw 1 0 m.length ∧ x.env.get 7 = .i .u64 (n1 : Int) ∧ x.env.get 10 = .i .i64 a ∧ x.env.get 11 = .rsl q 5 0 n2 ∧ x.st.get q = some (.cells (Nay L) false) ∧ q < x.st.cnt) ?_ ?_
 ·have hq5 : putF.length = 5 := rfl
  have hqt : putF.take 5 = putF := rfl
  have k13' : ∀ n, St.get ⟨sto, n⟩ kp = some (.cells putF false) := fun _ => k13
  rw [Z0]
  simp (disch := first | omega | rfl | assumption) only [↓Xp, ↓Xt, Xq, Xc, Nac, Naa, Nat.reduceAdd, Nat.reduceMul, Nat.reduceLT, Nat.reduceEqDiff, reduceIte, Xm, Nat.reduceLeDiff, g5, g7, g10, g11, g13, k13', hq5, hqt]
  refine Z9 (k := 5 - 0) (fun d x => ∃ (k : Nat) (a : Int) (L : List Ev), k ≤ 5 ∧ d = 5 - k ∧ L.length = n2 ∧ NcK m (ksF k) a L = RES ∧ x.env.get 5 = .rsl kw 1 0 m.length ∧ x.env.get 7 = .i .u64 (n1 : Int) ∧ x.env.get 10 = .i .i64 a ∧ x.env.get 11 = .rsl q 5 0 n2 ∧ x.st.get q = some (.cells (Nay L) false) ∧ q < x.st.cnt ∧ x.st.get kw = some (.cells (Nab m) false) ∧ kw < x.st.cnt ∧ x.env.get 64 = .agg putF ∧ x.env.get 65 = .i .i64 (k : Int)) ?_ ?_ (by omega)
  ·clear g5 g7 g10 g11 kk hkc kq hqc g13 k13 k13' ht1
   rintro d ⟨env, ⟨sto, c⟩⟩ ⟨k, a, L, hk, rfl, hLn, hR, g5, g7, g10, g11, kq, hqc, kk, hkc, g64, g65⟩
   simp only at g5 g7 g10 g11 kq hqc kk hkc g64 g65
   by_cases hk5 : k < 5
   ·have hpa := Nro hk5
    simp only [Nat.mul_one] at hpa
    have ofc : Naa false [PV.fn (NbK k) []] = some (.fn (NbK k) []) := rfl
    rw [Njj hk5] at hR
    unfold NcK at hR
    have hcol := fun (N : Nat) (hN : c ≤ N) => Nmj (cfg := cfg) (fuel := fuel) hfk hfp hxp hx1 hx2 (v := .rsl kw 1 0 m.length) (b := m) (st := ⟨sto, N⟩) (q := q) (fun st2 h => hd ⟨sto, N⟩ st2 hqk kk (by simp only; omega) h) (by omega) (at0 := a) (L := L) hk5 kq (by simp only; omega) hfu (by omega)
    rw [hLn] at hcol
    rw [hLn] at hR
    cases hC : NgQ m k n2 n2 0 0 true a with
    | none =>
      rw [hC] at hR hcol
      have hR0 : RES = none := hR.symm
      subst hR0
      simp (disch := first | omega | rfl | assumption) only [↓Z0, ↓Xp, ↓Xt, Xq, Xc, Nac, Naa, Nat.reduceAdd, Nat.reduceMul, Nat.reduceLT, Nat.reduceEqDiff, reduceIte, Xa, Xn, g5, g7, g10, g11, g64, g65, hpa, ofc, hxk]
      refine Nj6 (hcol _ (by omega)) ?_
      rintro _ st1 ⟨c1, f1, rfl⟩
      simp (disch := first | omega | rfl | assumption) only [↓Z0, ↓Xp, ↓Xt, Xq, Xc, Nac, Naa, Nat.reduceAdd, Nat.reduceMul, Nat.reduceLT, Nat.reduceEqDiff, reduceIte, Xm, Nat.reduceLeDiff, unP]
      refine ⟨nofun, _, rfl, ?_⟩
      simp only [Naz, ↓Z0, ↓Xp, ↓Xt, Xq, Xc, Nac, Naa, Nat.reduceAdd, Nat.reduceMul, Nat.reduceLT, Nat.reduceEqDiff, reduceIte]
      exact NbN
    | some p =>
      obtain ⟨vs, a'⟩ := p
      rw [hC] at hR hcol
      simp only at hR hcol
      simp (disch := first | omega | rfl | assumption) only [↓Z0, ↓Xp, ↓Xt, Xq, Xc, Nac, Naa, Nat.reduceAdd, Nat.reduceMul, Nat.reduceLT, Nat.reduceEqDiff, reduceIte, Xa, Xn, g5, g7, g10, g11, g64, g65, hpa, ofc, hxk]
      refine Nj6 (hcol _ (by omega)) ?_
      rintro _ st1 ⟨c1, f1, rfl, hvl, q1⟩
      try simp only at c1
      try simp only at f1
      have kk1 : st1.get kw = some (.cells (Nab m) false) := by rw [f1 kw (by omega) (fun e => hqk e.symm)]; exact kk
      try simp (disch := first | omega | rfl | assumption) only [↓Z0, ↓Xp, ↓Xt, Xq, Xc, Nac, Naa, Nat.reduceAdd, Nat.reduceMul, Nat.reduceLT, Nat.reduceEqDiff, reduceIte, Xm, Nat.reduceLeDiff, unP]
      refine ⟨5 - (k + 1), by omega, k + 1, a', NiY k L vs, by omega, rfl, by rw [NeA (by omega)]; exact hLn, hR, rfl, q1, by omega, kk1, by omega, rfl⟩
   ·have hk' : k = 5 := by omega
    subst hk'
    have hR2 : RES = some (L, a) := by rw [← hR]; rfl
    simp (disch := first | omega | rfl | assumption) only [↓Z0, ↓Xp, ↓Xt, Xq, Xc, Nac, Naa, Nat.reduceAdd, Nat.reduceMul, Nat.reduceLT, Nat.reduceEqDiff, reduceIte, Xa, Xn, g5, g7, g10, g11, g64, g65]
    refine ⟨L, a, ?_⟩
    (repeat' (first | exact True.intro | rfl | assumption | omega | apply And.intro))
  ·refine ⟨0, x2, List.replicate n2 .zero, by omega, rfl, by rw [List.length_replicate], hRES, ?_⟩
   simp (disch := first | omega | rfl | assumption) only [↓Z0, ↓Xp, ↓Xt, Xq, Xc, Nac, Naa, Nat.reduceAdd, Nat.reduceMul, Nat.reduceLT, Nat.reduceEqDiff, reduceIte, Xa, Xn, g5, g7, g10, g11]
   (repeat' (first | exact True.intro | rfl | assumption | omega | apply And.intro))
 clear g5 g7 g10 g11 ht1 kk hkc kq hqc g13 k13
 rintro ⟨env, ⟨sto, c⟩⟩ ⟨L, a, rfl, hLn, g5, g7, g10, g11, kq, hqc⟩
 simp only at g5 g7 g10 g11 kq hqc
 simp only
 have hlr : ∀ (a b c n : Nat), NfG (.rsl a b c n) = some (.i .i64 n) := fun _ _ _ _ => rfl
 by_cases h8 : a < (m.length : Int)
 ·rw [if_pos h8]
  simp (disch := first | omega | rfl | assumption) only [↓Z0, ↓Xp, ↓Xt, Xq, Xc, Nac, Naa, Nat.reduceAdd, Nat.reduceMul, Nat.reduceLT, Nat.reduceEqDiff, reduceIte, Xa, Xn, g5, g7, g10, g11, hlr]
  refine ⟨nofun, _, rfl, ?_⟩
  simp only [Naz, ↓Z0, ↓Xp, ↓Xt, Xq, Xc, Nac, Naa, Nat.reduceAdd, Nat.reduceMul, Nat.reduceLT, Nat.reduceEqDiff, reduceIte]
  exact NbN
 ·rw [if_neg h8]
  have wn : IntKind.i64.wrap (n1 : Int) = (n1 : Int) := NaK _ ⟨by omega, by omega⟩
  simp (disch := first | omega | rfl | assumption) only [↓Z0, ↓Xp, ↓Xt, Xq, Xc, Nac, Naa, Nat.reduceAdd, Nat.reduceMul, Nat.reduceLT, Nat.reduceEqDiff, reduceIte, Xa, Xn, g5, g7, g10, g11, hlr]
  refine ⟨nofun, _, rfl, ?_⟩
  simp only [Naz, ↓Z0, ↓Xp, ↓Xt, Xq, Xc, Nac, Naa, Nat.reduceAdd, Nat.reduceMul, Nat.reduceLT, Nat.reduceEqDiff, reduceIte]
  have ho : Own ⟨sto, c + 80⟩ 5 (.rsl q 5 0 n2) n2 (Nay L) := .inr ⟨q, rfl, kq, by rw [NaI, hLn], by simp only; omega⟩
  have := Nbj (pre := [.i .i64 (n1 : Int)]) (post := [.i .i64 0]) ho rfl rfl (NbQ L) (by decide)
  rw [hLn]
  exact this
end Go.Pe
