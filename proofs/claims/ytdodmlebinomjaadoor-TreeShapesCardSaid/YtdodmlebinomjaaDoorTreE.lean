/-
 TreeShapes, by the interpreter of plain data. No condition.
-/
import Derived.Test.YtdodmlebinomjaaDoorTreD
set_option linter.unusedVariables false
set_option linter.unusedSimpArgs false
set_option maxHeartbeats 8000000
set_option maxRecDepth 100000
namespace Go.Pe
open Go Go.Am Go.RowKit

theorem Nni {cfg : Cfg} {callE : CallE} {n : Nat} {m : MCode} {x : Now} {Q : MExit → Now → Prop} (R : Now → Prop) (h : R x) (k : ∀ x, R x → WC cfg callE n m x Q) : WC cfg callE n m x Q := k x h
theorem NcZ (x y : Bool) : NmZ false (.b x) (.b y) = some (.b (x == y)) := by cases x <;> cases y <;> rfl
theorem Nq8 : (false == false) = true := rfl
theorem Nq9 : (false == true) = false := rfl
theorem Nra : (true == false) = false := rfl
theorem Nrb : (true == true) = true := rfl
theorem Nir {g : List PV → Option PV} {st : St} {key : Nat} {t : List UInt8} {xs ys : List PV} (hg : g [.s t] = some (.tup [.agg xs, .agg ys])) : Nar g false st key [.s t] = some (.tup [.agg xs, .agg ys], st) := by
 have h1 : Nbd st [.s t] = some [.s t] := rfl
 have h2 : keysL st [.s t] = [] := rfl
 have h3 : Nav st key (.tup [.agg xs, .agg ys]) = some (.tup [.agg xs, .agg ys], st) := rfl
 unfold Nar
 simp only [h1, hg, h2, Nak, ite_self, h3]
theorem NqY (x : Nat) (h : x < 23) : List.take 1 (List.drop x (txC wdsT)) = [.s (wdsT.getD x [])] := by
 have hl : (txC wdsT).length = 23 := rfl
 rw [List.drop_eq_getElem_cons (by rw [hl]; exact h)]
 simp only [List.take_succ_cons, List.take_zero, txC, List.getElem_map]
 have hx : x < wdsT.length := h
 simp only [List.getD, List.getElem?_eq_getElem hx, Option.getD_some]
theorem NfR {w ln : Int} {a b c : Bool} (h1 : 0 ≤ w ∧ w < 256) (h2 : 0 ≤ ln ∧ ln < 256)
 (H : ∀ o n a b c, o < 23 → n < 21 → fvP cfgT5 300 9 [.s (NpR o n a b c)] = some (Ne8 o n a b c)) : ∃ fuel, evP cfgT5 fuel 5 [.i .u8 w, .agg [.b a, .b b, .b c], .i .u8 ln] = some (.b true) := by
 refine ⟨300 + 1, Nfo rfl rfl (fun _ => rfl) (NbP (by kernel_rfl : cfgT5.fn 5 = some m5) ?_)⟩
 obtain ⟨p, rfl⟩ : ∃ p : Nat, w = p := ⟨w.toNat, by omega⟩
 obtain ⟨q, rfl⟩ : ∃ q : Nat, ln = q := ⟨ln.toNat, by omega⟩
 have hwd : Naq cfgT5 (Nba cfgT5 300) 14 [] = some (.osl 1 23 (txC wdsT)) := by
  have := NpP
  rw [NdG] at this
  exact this
 have hcW : ∀ st key, Nar (Naq cfgT5 (Nba cfgT5 300) 14) false st key [] = some (.rsl key 1 0 23, st.put key (some (.cells (txC wdsT) false))) := fun st key => by
  simp only [Nar, hwd, show Nbd st [] = some [] from rfl, show PV.closedB (.osl 1 23 (txC wdsT)) = true from rfl, if_true, Nav]
 obtain ⟨o, ho⟩ : ∃ o, p % 23 = o := ⟨_, rfl⟩
 obtain ⟨n, hn⟩ : ∃ n, q % 21 = n := ⟨_, rfl⟩
 have ho23 : o < 23 := by omega
 have hn21 : n < 21 := by omega
 have z23 : (((23 : Nat) : Int) = 0) = False := by simp
 have z21 : (((21 : Nat) : Int) = 0) = False := by simp
 have e1 : IntKind.i64.wrap (p : Int) = (p : Int) := NaM _ ⟨by omega, by omega⟩
 have e2 : (p : Int).tmod ((23 : Nat) : Int) = (o : Int) := Eq.trans (b := ((p % 23 : Nat) : Int)) (by rw [Int.ofNat_tmod]) (by rw [ho])
 have e3 : IntKind.i64.wrap ((o + 1 : Nat) : Int) = ((o + 1 : Nat) : Int) := NaM _ ⟨by omega, by omega⟩
 have e4 : IntKind.u8.wrap ((o + 1 : Nat) : Int) = ((o + 1 : Nat) : Int) := by rw [IntKind.wrap_u8]; omega
 have e5 : (q : Int).tmod ((21 : Nat) : Int) = (n : Int) := Eq.trans (b := ((q % 21 : Nat) : Int)) (by rw [Int.ofNat_tmod]) (by rw [hn])
 have e6 : IntKind.i64.wrap (n : Int) = (n : Int) := NaM _ ⟨by omega, by omega⟩
 have e7 : IntKind.u8.wrap (((o + 1 : Nat) : Int) - ((1 : Nat) : Int)) = (o : Int) := by rw [IntKind.wrap_u8]; omega
 have dq : ∀ st a k, Nbd st [.s a, .i .i64 k] = some [.s a, .i .i64 k] := fun _ _ _ => rfl
 have cb : ∀ l, PV.closedB (.s l) = true := fun _ => rfl
 have rb : ∀ (st : St) (key : Nat) l, Nav st key (.s l) = some (.s l, st) := fun _ _ _ => rfl
 have rp : Naq cfgT5 (Nba cfgT5 300) 15 [.s [10], .i .i64 (n : Int)] = some (.s (List.replicate n 10)) := by
  rw [Na2 Nqo]
  show (if _ then _ else _) = _
  rw [if_pos (by omega), Int.toNat_natCast]
 have wl : (wdsT.getD o []).length ≤ 10 := by
  have : ∀ x, x < 23 → (wdsT.getD x []).length ≤ 10 := by decide
  exact this o ho23
 have wat := NqY o ho23
 obtain ⟨W, hW⟩ : ∃ W, wdsT.getD o [] = W := ⟨_, rfl⟩
 rw [hW] at wat wl
 have hL1 : (List.replicate n (10 : UInt8)).length = n := List.length_replicate
 obtain ⟨T, hT⟩ : ∃ T, List.replicate n (10 : UInt8) ++ W = T := ⟨_, rfl⟩
 obtain ⟨L, hTl⟩ : ∃ L, T.length = L := ⟨_, rfl⟩
 obtain ⟨M, hWl⟩ : ∃ M, W.length = M := ⟨_, rfl⟩
 have hLM : L = n + M := by rw [← hTl, ← hT, List.length_append, hL1, hWl]
 rw [hWl] at wl
 have l1 : ∀ k, k < 100 → (n + k < 9223372036854775807) = True := fun k hk => by simp; omega
 have l3 : (n + M < 9223372036854775807) = True := by simp; omega
 have l2 : ∀ k, k < 100 → (L + k < 9223372036854775807) = True := fun k hk => by simp; omega
 have l4 : ∀ k, k < 100 → (12 + (L + k) < 9223372036854775807) = True := fun k hk => by simp; omega
 have hcl : (txC wdsT).length = 23 := rfl
 have ho1 : (o + 1 ≤ 23) = True := by simp; omega
 unfold m5
 simp only [Nau]
 (try rw [Z0])
 (try simp (maxSteps := 2000000) (disch := first | omega | rfl | assumption) only [↓Xp, ↓Xt, Xq, Xc, Nai, Naa, Nat.reduceAdd, Nat.reduceMul, Nat.reduceLT, Nat.reduceEqDiff, reduceIte, Xa, Xn, unP, Naz, NaA, NaB, Xm, Nat.reduceLeDiff, List.nil_append, List.cons_append, hcW, z23, z21, e1, e2, e3, e4, e5, e6, e7, dq, cb, rb, rp, wat, l1, l2, l3, hcl, ho1, hL1, hT, hTl, hWl, List.length_append, List.length_cons, List.length_nil])
 (try rw [Z0])
 (try simp (maxSteps := 2000000) (disch := first | omega | rfl | assumption) only [↓Xp, ↓Xt, Xq, Xc, Nai, Naa, Nat.reduceAdd, Nat.reduceMul, Nat.reduceLT, Nat.reduceEqDiff, reduceIte, Xa, Xn, unP, Naz, NaA, NaB, Xm, Nat.reduceLeDiff, List.nil_append, List.cons_append, hcW, z23, z21, e1, e2, e3, e4, e5, e6, e7, dq, cb, rb, rp, wat, l1, l2, l3, hcl, ho1, hL1, hT, hTl, hWl, List.length_append, List.length_cons, List.length_nil])
 (try rw [Z0])
 (try simp (maxSteps := 2000000) (disch := first | omega | rfl | assumption) only [↓Xp, ↓Xt, Xq, Xc, Nai, Naa, Nat.reduceAdd, Nat.reduceMul, Nat.reduceLT, Nat.reduceEqDiff, reduceIte, Xa, Xn, unP, Naz, NaA, NaB, Xm, Nat.reduceLeDiff, List.nil_append, List.cons_append, hcW, z23, z21, e1, e2, e3, e4, e5, e6, e7, dq, cb, rb, rp, wat, l1, l2, l3, hcl, ho1, hL1, hT, hTl, hWl, List.length_append, List.length_cons, List.length_nil])
 (try rw [Z0])
 (try simp (maxSteps := 2000000) (disch := first | omega | rfl | assumption) only [↓Xp, ↓Xt, Xq, Xc, Nai, Naa, Nat.reduceAdd, Nat.reduceMul, Nat.reduceLT, Nat.reduceEqDiff, reduceIte, Xa, Xn, unP, Naz, NaA, NaB, Xm, Nat.reduceLeDiff, List.nil_append, List.cons_append, hcW, z23, z21, e1, e2, e3, e4, e5, e6, e7, dq, cb, rb, rp, wat, l1, l2, l3, hcl, ho1, hL1, hT, hTl, hWl, List.length_append, List.length_cons, List.length_nil])
 refine Za (fun y => y.env.get 4 = .ptr 1 0 ∧ y.env.get 2 = .i .u8 (q : Int) ∧ y.env.get 6 = .b false ∧ y.env.get 8 = .i .u8 ((o + 1 : Nat) : Int) ∧ y.env.get 9 = .s (T ++ [32, 109] ++ (if a then [32, 49] else [])) ∧ y.st.get 1 = some (.cells [.b a, .b b, .b c] false) ∧ 2 ≤ y.st.cnt) ?_ ?_
 ·cases a
  ·simp (disch := first | omega | rfl | assumption) only [↓Z0, ↓Xp, ↓Xt, Xq, Xc, Nai, Naa, Nat.reduceAdd, Nat.reduceMul, Nat.reduceLT, Nat.reduceEqDiff, reduceIte, Xm, Nat.reduceLeDiff, Xa, Xn, unP, Naz, NaA, NaB]
  ·simp (disch := first | omega | rfl | assumption) only [↓Z0, ↓Xp, ↓Xt, Xq, Xc, Nai, Naa, Nat.reduceAdd, Nat.reduceMul, Nat.reduceLT, Nat.reduceEqDiff, reduceIte, Xm, Nat.reduceLeDiff, Xa, Xn, unP, Naz, NaA, NaB, l2, hTl, List.length_append, List.length_cons, List.length_nil]
 rintro ⟨env, ⟨sto, k1⟩⟩ ⟨g4, g2, g6, g8, g9, f1, hk⟩
 simp only at g4 g2 g6 g8 g9 hk
 replace f1 : ∀ c, St.get { sto := sto, cnt := c } 1 = _ := fun c => f1
 have ha : (if a then [32, 49] else [] : List UInt8).length ≤ 2 := by cases a <;> decide
 obtain ⟨S, hS⟩ : ∃ S, T ++ [32, 109] ++ (if a then [32, 49] else []) = S := ⟨_, rfl⟩
 have hSl : S.length ≤ 44 := by rw [← hS]; simp only [List.length_append, List.length_cons, List.length_nil, hTl]; omega
 rw [hS] at g9
 have l5 : ∀ k, k < 100 → (S.length + k < 9223372036854775807) = True := fun k hk => by simp; omega
 refine Za (fun y => y.env.get 4 = .ptr 1 0 ∧ y.env.get 2 = .i .u8 (q : Int) ∧ y.env.get 6 = .b false ∧ y.env.get 8 = .i .u8 ((o + 1 : Nat) : Int) ∧ y.env.get 9 = .s (S ++ (if b then [32, 45, 62, 32, 120] else [])) ∧ y.st.get 1 = some (.cells [.b a, .b b, .b c] false) ∧ 2 ≤ y.st.cnt) ?_ ?_
 ·cases b
  ·simp (disch := first | omega | rfl | assumption) only [↓Z0, ↓Xp, ↓Xt, Xq, Xc, Nai, Naa, Nat.reduceAdd, Nat.reduceMul, Nat.reduceLT, Nat.reduceEqDiff, reduceIte, Xm, Nat.reduceLeDiff, Xa, Xn, unP, Naz, NaA, NaB, g4, g2, g6, g8, g9, f1]
  ·simp (disch := first | omega | rfl | assumption) only [↓Z0, ↓Xp, ↓Xt, Xq, Xc, Nai, Naa, Nat.reduceAdd, Nat.reduceMul, Nat.reduceLT, Nat.reduceEqDiff, reduceIte, Xm, Nat.reduceLeDiff, Xa, Xn, unP, Naz, NaA, NaB, g4, g2, g6, g8, g9, f1, l5, List.length_append, List.length_cons, List.length_nil]
 clear g4 g2 g6 g8 g9 f1 hk
 rintro ⟨env, ⟨sto, k1⟩⟩ ⟨g4, g2, g6, g8, g9, f1, hk⟩
 simp only at g4 g2 g6 g8 g9 hk
 replace f1 : ∀ c, St.get { sto := sto, cnt := c } 1 = _ := fun c => f1
 obtain ⟨S2, hS2⟩ : ∃ S2, S ++ (if b then [32, 45, 62, 32, 120] else []) = S2 := ⟨_, rfl⟩
 have hS2l : S2.length ≤ 49 := by rw [← hS2]; cases b <;> simp <;> omega
 rw [hS2] at g9
 have l6 : ∀ k, k < 100 → (S2.length + k < 9223372036854775807) = True := fun k hk => by simp; omega
 refine Za (fun y => y.env.get 4 = .ptr 1 0 ∧ y.env.get 2 = .i .u8 (q : Int) ∧ y.env.get 6 = .b false ∧ y.env.get 8 = .i .u8 ((o + 1 : Nat) : Int) ∧ y.env.get 9 = .s (S2 ++ (if c then [32, 123, 32, 125] else [59])) ∧ y.st.get 1 = some (.cells [.b a, .b b, .b c] false) ∧ 2 ≤ y.st.cnt) ?_ ?_
 ·cases c
  ·simp (disch := first | omega | rfl | assumption) only [↓Z0, ↓Xp, ↓Xt, Xq, Xc, Nai, Naa, Nat.reduceAdd, Nat.reduceMul, Nat.reduceLT, Nat.reduceEqDiff, reduceIte, Xm, Nat.reduceLeDiff, Xa, Xn, unP, Naz, NaA, NaB, g4, g2, g6, g8, g9, f1, l6, List.length_append, List.length_cons, List.length_nil]
  ·simp (disch := first | omega | rfl | assumption) only [↓Z0, ↓Xp, ↓Xt, Xq, Xc, Nai, Naa, Nat.reduceAdd, Nat.reduceMul, Nat.reduceLT, Nat.reduceEqDiff, reduceIte, Xm, Nat.reduceLeDiff, Xa, Xn, unP, Naz, NaA, NaB, g4, g2, g6, g8, g9, f1, l6, List.length_append, List.length_cons, List.length_nil]
 clear g4 g2 g6 g8 g9 f1 hk
 rintro ⟨env, ⟨sto, k1⟩⟩ ⟨g4, g2, g6, g8, g9, f1, hk⟩
 simp only at g4 g2 g6 g8 g9 hk
 replace f1 : ∀ c, St.get { sto := sto, cnt := c } 1 = _ := fun c => f1
 obtain ⟨S3, hS3⟩ : ∃ S3, S2 ++ (if c then [32, 123, 32, 125] else [59]) = S3 := ⟨_, rfl⟩
 have hS3l : S3.length ≤ 53 := by rw [← hS3]; cases c <;> simp <;> omega
 rw [hS3] at g9
 have htx : [116, 104, 114, 101, 97, 100, 32, 116, 32, 123] ++ (S3 ++ [125]) = NpR o n a b c := by
  rw [← hS3, ← hS2, ← hS, ← hT, ← hW]
  cases a <;> cases b <;> cases c <;> simp [NpR]
 have l7 : ∀ k, k < 100 → (k + S3.length < 9223372036854775807) = True := fun k hk => by simp; omega
 have l8 : ∀ k, k < 100 → (S3.length + k < 9223372036854775807) = True := fun k hk => by simp; omega
 have l9 : ∀ j k, k < 100 → j < 100 → (j + (S3.length + k) < 9223372036854775807) = True := fun j k hk hj => by simp; omega
 obtain ⟨X, Y, Z, hw, hX, hY, hZ⟩ : ∃ X : PV, ∃ Y Z : Int, Ne8 o n a b c = .tup [.agg [.nsl, X], .agg [.i .i64 Y, .i .i64 Z]] ∧ X = (if okB o a b c then .fsl 1 [.s [116], .fsl 1 (Nrg o n), .i .i64 1] else .nsl) ∧ Y = (if okB o a b c then 0 else 101) ∧ Z = (if okB o a b c then 0 else ((n + 1 : Nat) : Int)) := by
  unfold Ne8
  cases okB o a b c
  ·exact ⟨_, _, _, rfl, rfl, rfl, rfl⟩
  ·exact ⟨_, _, _, rfl, rfl, rfl, rfl⟩
 have hpr : Naq cfgT5 (Nba cfgT5 300) 9 [.s (116 :: 104 :: 114 :: 101 :: 97 :: 100 :: 32 :: 116 :: 32 :: 123 :: (S3 ++ [125]))] = some (.tup [.agg [.nsl, X], .agg [.i .i64 Y, .i .i64 Z]]) := by
  have := H o n a b c ho23 hn21
  rw [NdG, hw, ← htx] at this
  exact this
 have hcP := fun st key => Nir (st := st) (key := key) hpr
 have hX1 : X.one = true := by rw [hX]; split <;> rfl
 (try rw [Z0])
 (try simp (maxSteps := 2000000) (disch := first | omega | rfl | assumption) only [↓Xp, ↓Xt, Xq, Xc, Nai, Naa, Nat.reduceAdd, Nat.reduceMul, Nat.reduceLT, Nat.reduceEqDiff, reduceIte, Xa, Xn, unP, Naz, NaA, NaB, Xm, Nat.reduceLeDiff, List.nil_append, List.cons_append, g4, g2, g6, g8, g9, f1, l7, l8, l9, hcP, hX1])
 refine Nni (fun y => ∃ ka kb, y.env.get 4 = .ptr 1 0 ∧ y.env.get 2 = .i .u8 (q : Int) ∧ y.env.get 6 = .b false ∧ y.env.get 8 = .i .u8 ((o + 1 : Nat) : Int) ∧ y.env.get 10 = .ptr ka 0 ∧ y.env.get 11 = .ptr kb 0 ∧ y.st.get 1 = some (.cells [.b a, .b b, .b c] false) ∧ y.st.get ka = some (.cells [.nsl, X] false) ∧ y.st.get kb = some (.cells [.i .i64 Y, .i .i64 Z] false)) ?_ ?_
 ·simp only
  refine ⟨k1 + 56, k1 + 64, ?_⟩
  simp (disch := first | omega | rfl | assumption) only [↓Z0, ↓Xp, ↓Xt, Xq, Xc, Nai, Naa, Nat.reduceAdd, Nat.reduceMul, Nat.reduceLT, Nat.reduceEqDiff, reduceIte, Xm, Nat.reduceLeDiff, Xa, Xn, unP, Naz, NaA, NaB, g4, g2, g6, g8, f1]
 clear g4 g2 g6 g8 g9 f1 hk
 rintro ⟨env, ⟨sto, k1⟩⟩ ⟨ka, kb, g4, g2, g6, g8, g10, g11, f1, fa, fb⟩
 simp only at g4 g2 g6 g8 g10 g11
 replace f1 : ∀ c, St.get { sto := sto, cnt := c } 1 = _ := fun c => f1
 replace fa : ∀ c, St.get { sto := sto, cnt := c } ka = _ := fun c => fa
 replace fb : ∀ c, St.get { sto := sto, cnt := c } kb = _ := fun c => fb
 refine Za (fun y => y.env.get 4 = .ptr 1 0 ∧ y.env.get 2 = .i .u8 (q : Int) ∧ y.env.get 6 = .b false ∧ y.env.get 8 = .i .u8 ((o + 1 : Nat) : Int) ∧ y.env.get 10 = .ptr ka 0 ∧ y.env.get 11 = .ptr kb 0 ∧ y.env.get 12 = .b (Nfa o) ∧ y.st.sto = sto) ?_ ?_
 ·have hc : o = 3 ∨ o = 16 ∨ o = 19 ∨ o = 22 ∨ (o ≠ 3 ∧ o ≠ 16 ∧ o ≠ 19 ∧ o ≠ 22) := by omega
  clear H hw hX hY hZ
  rcases hc with h | h | h | h | h
  ·have ef : Nfa o = true := by rw [h]; rfl
   have e1 : (((o + 1 : Nat) : Int) = ((4 : Nat) : Int)) = True := by rw [h]; simp
   simp (disch := first | omega | rfl | assumption) only [↓Z0, ↓Xp, ↓Xt, Xq, Xc, Nai, Naa, Nat.reduceAdd, Nat.reduceMul, Nat.reduceLT, Nat.reduceEqDiff, reduceIte, Xm, Nat.reduceLeDiff, Xa, Xn, unP, Naz, NaA, NaB, g4, g2, g6, g8, g10, g11, ef, e1]
  ·have ef : Nfa o = true := by rw [h]; rfl
   have e1 : (((o + 1 : Nat) : Int) = ((4 : Nat) : Int)) = False := by rw [h]; simp
   have e2 : (((o + 1 : Nat) : Int) = ((17 : Nat) : Int)) = True := by rw [h]; simp
   simp (disch := first | omega | rfl | assumption) only [↓Z0, ↓Xp, ↓Xt, Xq, Xc, Nai, Naa, Nat.reduceAdd, Nat.reduceMul, Nat.reduceLT, Nat.reduceEqDiff, reduceIte, Xm, Nat.reduceLeDiff, Xa, Xn, unP, Naz, NaA, NaB, g4, g2, g6, g8, g10, g11, ef, e1, e2]
  ·have ef : Nfa o = true := by rw [h]; rfl
   have e1 : (((o + 1 : Nat) : Int) = ((4 : Nat) : Int)) = False := by rw [h]; simp
   have e2 : (((o + 1 : Nat) : Int) = ((17 : Nat) : Int)) = False := by rw [h]; simp
   have e3 : (((o + 1 : Nat) : Int) = ((20 : Nat) : Int)) = True := by rw [h]; simp
   simp (disch := first | omega | rfl | assumption) only [↓Z0, ↓Xp, ↓Xt, Xq, Xc, Nai, Naa, Nat.reduceAdd, Nat.reduceMul, Nat.reduceLT, Nat.reduceEqDiff, reduceIte, Xm, Nat.reduceLeDiff, Xa, Xn, unP, Naz, NaA, NaB, g4, g2, g6, g8, g10, g11, ef, e1, e2, e3]
  ·have ef : Nfa o = true := by rw [h]; rfl
   have e1 : (((o + 1 : Nat) : Int) = ((4 : Nat) : Int)) = False := by rw [h]; simp
   have e2 : (((o + 1 : Nat) : Int) = ((17 : Nat) : Int)) = False := by rw [h]; simp
   have e3 : (((o + 1 : Nat) : Int) = ((20 : Nat) : Int)) = False := by rw [h]; simp
   have e4 : (((o + 1 : Nat) : Int) = ((23 : Nat) : Int)) = True := by rw [h]; simp
   simp (disch := first | omega | rfl | assumption) only [↓Z0, ↓Xp, ↓Xt, Xq, Xc, Nai, Naa, Nat.reduceAdd, Nat.reduceMul, Nat.reduceLT, Nat.reduceEqDiff, reduceIte, Xm, Nat.reduceLeDiff, Xa, Xn, unP, Naz, NaA, NaB, g4, g2, g6, g8, g10, g11, ef, e1, e2, e3, e4]
  ·have hb0 : Nat.beq o 3 = false := Bool.eq_false_iff.2 fun e => absurd (Nat.eq_of_beq_eq_true e) (by omega)
   have hb1 : Nat.beq o 16 = false := Bool.eq_false_iff.2 fun e => absurd (Nat.eq_of_beq_eq_true e) (by omega)
   have hb2 : Nat.beq o 19 = false := Bool.eq_false_iff.2 fun e => absurd (Nat.eq_of_beq_eq_true e) (by omega)
   have hb3 : Nat.beq o 22 = false := Bool.eq_false_iff.2 fun e => absurd (Nat.eq_of_beq_eq_true e) (by omega)
   have ef : Nfa o = false := by simp only [Nfa, hb0, hb1, hb2, hb3, Bool.or_false]
   have e1 : (((o + 1 : Nat) : Int) = ((4 : Nat) : Int)) = False := by simp; omega
   have e2 : (((o + 1 : Nat) : Int) = ((17 : Nat) : Int)) = False := by simp; omega
   have e3 : (((o + 1 : Nat) : Int) = ((20 : Nat) : Int)) = False := by simp; omega
   have e4 : (((o + 1 : Nat) : Int) = ((23 : Nat) : Int)) = False := by simp; omega
   simp (disch := first | omega | rfl | assumption) only [↓Z0, ↓Xp, ↓Xt, Xq, Xc, Nai, Naa, Nat.reduceAdd, Nat.reduceMul, Nat.reduceLT, Nat.reduceEqDiff, reduceIte, Xm, Nat.reduceLeDiff, Xa, Xn, unP, Naz, NaA, NaB, g4, g2, g6, g8, g10, g11, ef, e1, e2, e3, e4]
 clear g4 g2 g6 g8 g10 g11
 rintro ⟨env, ⟨sto, k1⟩⟩ ⟨g4, g2, g6, g8, g10, g11, g12, rfl⟩
 simp only at g4 g2 g6 g8 g10 g11 g12 f1 fa fb
 refine Za (fun y => y.env.get 4 = .ptr 1 0 ∧ y.env.get 2 = .i .u8 (q : Int) ∧ y.env.get 6 = .b false ∧ y.env.get 8 = .i .u8 ((o + 1 : Nat) : Int) ∧ y.env.get 10 = .ptr ka 0 ∧ y.env.get 11 = .ptr kb 0 ∧ y.env.get 12 = .b (Nfa o) ∧ y.env.get 13 = .b (Nfc o) ∧ y.st.sto = sto) ?_ ?_
 ·have hc : o = 2 ∨ o = 3 ∨ o = 10 ∨ o = 20 ∨ o = 21 ∨ (o ≠ 2 ∧ o ≠ 3 ∧ o ≠ 10 ∧ o ≠ 20 ∧ o ≠ 21) := by omega
  clear H hw hX hY hZ
  rcases hc with h | h | h | h | h | h
  ·have ef : Nfc o = true := by rw [h]; rfl
   have e1 : (((o + 1 : Nat) : Int) = ((3 : Nat) : Int)) = True := by rw [h]; simp
   simp (disch := first | omega | rfl | assumption) only [↓Z0, ↓Xp, ↓Xt, Xq, Xc, Nai, Naa, Nat.reduceAdd, Nat.reduceMul, Nat.reduceLT, Nat.reduceEqDiff, reduceIte, Xm, Nat.reduceLeDiff, Xa, Xn, unP, Naz, NaA, NaB, g4, g2, g6, g8, g10, g11, g12, ef, e1]
  ·have ef : Nfc o = true := by rw [h]; rfl
   have e1 : (((o + 1 : Nat) : Int) = ((3 : Nat) : Int)) = False := by rw [h]; simp
   have e2 : (((o + 1 : Nat) : Int) = ((4 : Nat) : Int)) = True := by rw [h]; simp
   simp (disch := first | omega | rfl | assumption) only [↓Z0, ↓Xp, ↓Xt, Xq, Xc, Nai, Naa, Nat.reduceAdd, Nat.reduceMul, Nat.reduceLT, Nat.reduceEqDiff, reduceIte, Xm, Nat.reduceLeDiff, Xa, Xn, unP, Naz, NaA, NaB, g4, g2, g6, g8, g10, g11, g12, ef, e1, e2]
  ·have ef : Nfc o = true := by rw [h]; rfl
   have e1 : (((o + 1 : Nat) : Int) = ((3 : Nat) : Int)) = False := by rw [h]; simp
   have e2 : (((o + 1 : Nat) : Int) = ((4 : Nat) : Int)) = False := by rw [h]; simp
   have e3 : (((o + 1 : Nat) : Int) = ((11 : Nat) : Int)) = True := by rw [h]; simp
   simp (disch := first | omega | rfl | assumption) only [↓Z0, ↓Xp, ↓Xt, Xq, Xc, Nai, Naa, Nat.reduceAdd, Nat.reduceMul, Nat.reduceLT, Nat.reduceEqDiff, reduceIte, Xm, Nat.reduceLeDiff, Xa, Xn, unP, Naz, NaA, NaB, g4, g2, g6, g8, g10, g11, g12, ef, e1, e2, e3]
  ·have ef : Nfc o = true := by rw [h]; rfl
   have e1 : (((o + 1 : Nat) : Int) = ((3 : Nat) : Int)) = False := by rw [h]; simp
   have e2 : (((o + 1 : Nat) : Int) = ((4 : Nat) : Int)) = False := by rw [h]; simp
   have e3 : (((o + 1 : Nat) : Int) = ((11 : Nat) : Int)) = False := by rw [h]; simp
   have e4 : (((o + 1 : Nat) : Int) = ((21 : Nat) : Int)) = True := by rw [h]; simp
   simp (disch := first | omega | rfl | assumption) only [↓Z0, ↓Xp, ↓Xt, Xq, Xc, Nai, Naa, Nat.reduceAdd, Nat.reduceMul, Nat.reduceLT, Nat.reduceEqDiff, reduceIte, Xm, Nat.reduceLeDiff, Xa, Xn, unP, Naz, NaA, NaB, g4, g2, g6, g8, g10, g11, g12, ef, e1, e2, e3, e4]
  ·have ef : Nfc o = true := by rw [h]; rfl
   have e1 : (((o + 1 : Nat) : Int) = ((3 : Nat) : Int)) = False := by rw [h]; simp
   have e2 : (((o + 1 : Nat) : Int) = ((4 : Nat) : Int)) = False := by rw [h]; simp
   have e3 : (((o + 1 : Nat) : Int) = ((11 : Nat) : Int)) = False := by rw [h]; simp
   have e4 : (((o + 1 : Nat) : Int) = ((21 : Nat) : Int)) = False := by rw [h]; simp
   have e5 : (((o + 1 : Nat) : Int) = ((22 : Nat) : Int)) = True := by rw [h]; simp
   simp (disch := first | omega | rfl | assumption) only [↓Z0, ↓Xp, ↓Xt, Xq, Xc, Nai, Naa, Nat.reduceAdd, Nat.reduceMul, Nat.reduceLT, Nat.reduceEqDiff, reduceIte, Xm, Nat.reduceLeDiff, Xa, Xn, unP, Naz, NaA, NaB, g4, g2, g6, g8, g10, g11, g12, ef, e1, e2, e3, e4, e5]
  ·have hb0 : Nat.beq o 2 = false := Bool.eq_false_iff.2 fun e => absurd (Nat.eq_of_beq_eq_true e) (by omega)
   have hb1 : Nat.beq o 3 = false := Bool.eq_false_iff.2 fun e => absurd (Nat.eq_of_beq_eq_true e) (by omega)
   have hb2 : Nat.beq o 10 = false := Bool.eq_false_iff.2 fun e => absurd (Nat.eq_of_beq_eq_true e) (by omega)
   have hb3 : Nat.beq o 20 = false := Bool.eq_false_iff.2 fun e => absurd (Nat.eq_of_beq_eq_true e) (by omega)
   have hb4 : Nat.beq o 21 = false := Bool.eq_false_iff.2 fun e => absurd (Nat.eq_of_beq_eq_true e) (by omega)
   have ef : Nfc o = false := by simp only [Nfc, hb0, hb1, hb2, hb3, hb4, Bool.or_false]
   have e1 : (((o + 1 : Nat) : Int) = ((3 : Nat) : Int)) = False := by simp; omega
   have e2 : (((o + 1 : Nat) : Int) = ((4 : Nat) : Int)) = False := by simp; omega
   have e3 : (((o + 1 : Nat) : Int) = ((11 : Nat) : Int)) = False := by simp; omega
   have e4 : (((o + 1 : Nat) : Int) = ((21 : Nat) : Int)) = False := by simp; omega
   have e5 : (((o + 1 : Nat) : Int) = ((22 : Nat) : Int)) = False := by simp; omega
   simp (disch := first | omega | rfl | assumption) only [↓Z0, ↓Xp, ↓Xt, Xq, Xc, Nai, Naa, Nat.reduceAdd, Nat.reduceMul, Nat.reduceLT, Nat.reduceEqDiff, reduceIte, Xm, Nat.reduceLeDiff, Xa, Xn, unP, Naz, NaA, NaB, g4, g2, g6, g8, g10, g11, g12, ef, e1, e2, e3, e4, e5]
 clear g4 g2 g6 g8 g10 g11 g12
 rintro ⟨env, ⟨sto, k1⟩⟩ ⟨g4, g2, g6, g8, g10, g11, g12, g13, rfl⟩
 simp only at g4 g2 g6 g8 g10 g11 g12 g13 f1 fa fb
 rw [Z0]
 refine Za (fun y => y.env.get 4 = .ptr 1 0 ∧ y.env.get 2 = .i .u8 (q : Int) ∧ y.env.get 6 = .b false ∧ y.env.get 8 = .i .u8 ((o + 1 : Nat) : Int) ∧ y.env.get 10 = .ptr ka 0 ∧ y.env.get 11 = .ptr kb 0 ∧ y.env.get 102 = .b (okB o a b c) ∧ y.st.sto = sto) ?_ ?_
 ·clear H hw hX hY hZ
  have hs : okB o a b c = (a == Nfa o && (b == Nfc o && c == Nat.beq o 15)) := rfl
  cases hA : (a == Nfa o)
  ·rw [hA, Bool.false_and] at hs
   simp (disch := first | omega | rfl | assumption) only [↓Z0, ↓Xp, ↓Xt, Xq, Xc, Nai, Naa, Nat.reduceAdd, Nat.reduceMul, Nat.reduceLT, Nat.reduceEqDiff, reduceIte, Xm, Nat.reduceLeDiff, Xa, Xn, unP, Naz, NaA, NaB, g4, g2, g6, g8, g10, g11, g12, g13, f1, NcZ, hs, hA]
  ·cases hB : (b == Nfc o)
   ·rw [hA, hB, Bool.false_and, Bool.true_and] at hs
    simp (disch := first | omega | rfl | assumption) only [↓Z0, ↓Xp, ↓Xt, Xq, Xc, Nai, Naa, Nat.reduceAdd, Nat.reduceMul, Nat.reduceLT, Nat.reduceEqDiff, reduceIte, Xm, Nat.reduceLeDiff, Xa, Xn, unP, Naz, NaA, NaB, g4, g2, g6, g8, g10, g11, g12, g13, f1, NcZ, hs, hA, hB]
   ·rw [hA, hB, Bool.true_and, Bool.true_and] at hs
    by_cases ho15 : o = 15
    ·have e1 : (((o + 1 : Nat) : Int) = ((16 : Nat) : Int)) = True := by rw [ho15]; simp
     have eb : Nat.beq o 15 = true := by rw [ho15]; rfl
     rw [eb] at hs
     cases c
     ·replace hs : okB o a b false = false := hs
      simp (disch := first | omega | rfl | assumption) only [↓Z0, ↓Xp, ↓Xt, Xq, Xc, Nai, Naa, Nat.reduceAdd, Nat.reduceMul, Nat.reduceLT, Nat.reduceEqDiff, reduceIte, Xm, Nat.reduceLeDiff, Xa, Xn, unP, Naz, NaA, NaB, g4, g2, g6, g8, g10, g11, g12, g13, f1, NcZ, hs, hA, hB, e1, decide_true, decide_false, Nq8, Nq9, Nra, Nrb]
     ·replace hs : okB o a b true = true := hs
      simp (disch := first | omega | rfl | assumption) only [↓Z0, ↓Xp, ↓Xt, Xq, Xc, Nai, Naa, Nat.reduceAdd, Nat.reduceMul, Nat.reduceLT, Nat.reduceEqDiff, reduceIte, Xm, Nat.reduceLeDiff, Xa, Xn, unP, Naz, NaA, NaB, g4, g2, g6, g8, g10, g11, g12, g13, f1, NcZ, hs, hA, hB, e1, decide_true, decide_false, Nq8, Nq9, Nra, Nrb]
    ·have e1 : (((o + 1 : Nat) : Int) = ((16 : Nat) : Int)) = False := by simp; omega
     have eb : Nat.beq o 15 = false := Bool.eq_false_iff.2 fun e => absurd (Nat.eq_of_beq_eq_true e) ho15
     rw [eb] at hs
     cases c
     ·replace hs : okB o a b false = true := hs
      simp (disch := first | omega | rfl | assumption) only [↓Z0, ↓Xp, ↓Xt, Xq, Xc, Nai, Naa, Nat.reduceAdd, Nat.reduceMul, Nat.reduceLT, Nat.reduceEqDiff, reduceIte, Xm, Nat.reduceLeDiff, Xa, Xn, unP, Naz, NaA, NaB, g4, g2, g6, g8, g10, g11, g12, g13, f1, NcZ, hs, hA, hB, e1, decide_true, decide_false, Nq8, Nq9, Nra, Nrb]
     ·replace hs : okB o a b true = false := hs
      simp (disch := first | omega | rfl | assumption) only [↓Z0, ↓Xp, ↓Xt, Xq, Xc, Nai, Naa, Nat.reduceAdd, Nat.reduceMul, Nat.reduceLT, Nat.reduceEqDiff, reduceIte, Xm, Nat.reduceLeDiff, Xa, Xn, unP, Naz, NaA, NaB, g4, g2, g6, g8, g10, g11, g12, g13, f1, NcZ, hs, hA, hB, e1, decide_true, decide_false, Nq8, Nq9, Nra, Nrb]
 clear g4 g2 g6 g8 g10 g11 g12 g13
 rintro ⟨env, ⟨sto, k1⟩⟩ ⟨g4, g2, g6, g8, g10, g11, g102, rfl⟩
 simp only at g4 g2 g6 g8 g10 g11 g102 f1 fa fb
 have haw : ∀ st key, Nar (Naq cfgT5 (Nba cfgT5 300) 7) false st key [] = some (.b true, st) := fun st key => by
  have : Naq cfgT5 (Nba cfgT5 300) 7 [] = some (.b true) := by rw [Na2 Nqm]; rfl
  simp only [Nar, this, show Nbd st [] = some [] from rfl, show PV.closedB (.b true) = true from rfl, if_true, Nav]
 have e8 : IntKind.i64.wrap (1 + (n : Int)) = ((n + 1 : Nat) : Int) := by rw [NaM _ ⟨by omega, by omega⟩]; omega
 have e9 : IntKind.i64.wrap (((1 + n : Nat) : Int)) = ((n + 1 : Nat) : Int) := by rw [NaM _ ⟨by omega, by omega⟩]; omega
 cases hok : okB o a b c
 ·rw [hok] at g102
  simp only [hok, Bool.false_eq_true, if_false] at hX hY hZ
  subst hX hY hZ
  simp (disch := first | omega | rfl | assumption) only [↓Z0, ↓Xp, ↓Xt, Xq, Xc, Nai, Naa, Nat.reduceAdd, Nat.reduceMul, Nat.reduceLT, Nat.reduceEqDiff, reduceIte, Xm, Nat.reduceLeDiff, Xa, Xn, unP, Naz, NaA, NaB, g4, g2, g6, g8, g10, g11, g102, fb, e5, e6, e8, e9, z21, haw]
  refine ⟨nofun, _, rfl, ?_⟩
  simp only [Ndt, ↓Z0, ↓Xp, ↓Xt, Xq, Xc, Nai, Naa, Nat.reduceAdd, Nat.reduceMul, Nat.reduceLT, Nat.reduceEqDiff, reduceIte]
 ·rw [hok] at g102
  simp only [hok, if_true] at hX hY hZ
  subst hX hY hZ
  (try rw [Z0])
  (try simp (maxSteps := 2000000) (disch := first | omega | rfl | assumption) only [↓Xp, ↓Xt, Xq, Xc, Nai, Naa, Nat.reduceAdd, Nat.reduceMul, Nat.reduceLT, Nat.reduceEqDiff, reduceIte, Xa, Xn, unP, Naz, NaA, NaB, Xm, Nat.reduceLeDiff, List.nil_append, List.cons_append, g4, g2, g6, g8, g10, g11, g102, fa, fb, e5, e6, e8, e9, z21, haw, Nrg])
  (try rw [Z0])
  (try simp (maxSteps := 2000000) (disch := first | omega | rfl | assumption) only [↓Xp, ↓Xt, Xq, Xc, Nai, Naa, Nat.reduceAdd, Nat.reduceMul, Nat.reduceLT, Nat.reduceEqDiff, reduceIte, Xa, Xn, unP, Naz, NaA, NaB, Xm, Nat.reduceLeDiff, List.nil_append, List.cons_append, g4, g2, g6, g8, g10, g11, g102, fa, fb, e5, e6, e8, e9, z21, haw, Nrg])
  refine ⟨nofun, _, rfl, ?_⟩
  simp only [Ndt, ↓Z0, ↓Xp, ↓Xt, Xq, Xc, Nai, Naa, Nat.reduceAdd, Nat.reduceMul, Nat.reduceLT, Nat.reduceEqDiff, reduceIte]
theorem Ndr (H : ∀ o n a b c, o < 23 → n < 21 → fvP cfgT5 300 9 [.s (NpR o n a b c)] = some (Ne8 o n a b c)) (w : Int) (h1 : (Lit.int .u8 w).wf = true) (z : List PV) (hz : (Sh.cons .b (.cons .b (.cons .b .nil))).Is z) (ln : Int) (h2 : (Lit.int .u8 ln).wf = true) : ∃ fuel, evP cfgT5 fuel 5 [.i .u8 w, .agg z, .i .u8 ln] = some (.b true) := by
 obtain ⟨⟨a, ha⟩, ⟨b, hb⟩, ⟨c, hc⟩, hn⟩ := hz
 simp only [Sh.width, Sh.Is] at ha hb hc hn
 have k3 : List.drop 1 (List.drop 1 z) = [.b c] := by
  have := List.take_append_drop 1 (List.drop 1 (List.drop 1 z))
  rw [hc, hn] at this
  exact this.symm
 have k2 : List.drop 1 z = [.b b, .b c] := by
  have := List.take_append_drop 1 (List.drop 1 z)
  rw [hb, k3] at this
  exact this.symm
 have k1 : z = [.b a, .b b, .b c] := by
  have := List.take_append_drop 1 z
  rw [ha, k2] at this
  exact this.symm
 rw [k1]
 refine NfR ?_ ?_ H
 ·simp [Lit.wf, IntKind.min, IntKind.max, IntKind.signed, IntKind.bits] at h1
  omega
 ·simp [Lit.wf, IntKind.min, IntKind.max, IntKind.signed, IntKind.bits] at h2
  omega
end Go.Pe
