/-
 CodeRound: the law's walk. No condition.
-/
import Derived.Test.YtnnokaklkegngaaDoorCodE
set_option linter.unusedVariables false
set_option linter.unusedSimpArgs false
set_option maxHeartbeats 8000000
set_option maxRecDepth 100000
namespace Go.Pe
open Go Go.Am Go.RowKit

theorem NeC {cfg : Cfg} {callE : CallE} {a b : List MOper} {key : Nat} {c : Loc} {Q : Loc → Prop} : WO cfg callE (a ++ b) key c Q ↔ WO cfg callE a key c fun c' => WO cfg callE b (key + 8 * a.length) c' Q := by
 unfold WO
 induction a generalizing key c with
 | nil => simp [NaD]
 | cons o a ih =>
   simp only [List.cons_append, NaD, List.length_cons]
   rw [show key + 8 * (a.length + 1) = key + 8 + 8 * a.length by omega]
   cases Nak c o.guard with
   | none => simp
   | some g =>
     cases g with
     | false => exact ih
     | true =>
       cases Nai cfg callE c.rd c.st key o.op with
       | none => simp
       | some p => exact ih
theorem NaX {cfg : Cfg} {callE : CallE} (n : Nat) {l : List MOper} {key : Nat} {c : Loc} {Q : Loc → Prop} (R : Loc → Prop) (hn : n ≤ l.length) (h : ∀ K : Loc → Prop, (∀ c', R c' → K c') → WO cfg callE (l.take n) key c K) (k : ∀ c', R c' → WO cfg callE (l.drop n) (key + 8 * n) c' Q) : WO cfg callE l key c Q := by
 rw [← List.take_append_drop n l]
 refine NeC.2 ?_
 rw [List.length_take, Nat.min_eq_left hn]
 exact h _ k
structure Rd3 (a b : Int) (K6 K5 KO : Nat) (env : Env) (st : St) : Prop where
 g0 : env.get 0 = .i .i64 a
 g1 : env.get 1 = .i .i64 b
 g7 : env.get 7 = .fn 8 [.ptr K6 0, .ptr K5 0]
 g8 : env.get 8 = .fn 10 []
 c6 : K6 < st.cnt
 c5 : K5 < st.cnt
 cO : KO < st.cnt
 k6 : st.get K6 = some (.cells [.nsl, .fsl 1 thrC] false)
 k5 : st.get K5 = some (.cells [.rsl KO 1 0 2] false)
 kO : st.get KO = some (.cells (Nb7 [a, b]) false)
theorem Rd3.over {a b : Int} {K6 K5 KO : Nat} {env : Env} {st st' : St} (h : Rd3 a b K6 K5 KO env st) (hg : ∀ j, st'.get j = st.get j) (hc : st.cnt ≤ st'.cnt) : Rd3 a b K6 K5 KO env st' :=
 ⟨h.g0, h.g1, h.g7, h.g8, by have := h.c6; omega, by have := h.c5; omega, by have := h.cO; omega, (hg _).trans h.k6, (hg _).trans h.k5, (hg _).trans h.kO⟩
theorem NiJ (a b : Int) : (exq 2).eval [a, b] = IntKind.i64.wrap (a + b) := by
 rw [Ex.eval_eq]; rfl
theorem Nh2 (a b : Int) : (exq 3).eval [a, b] = IntKind.i64.wrap (a - b) := by
 rw [Ex.eval_eq]; rfl
theorem NiK (a b : Int) : (exq 4).eval [a, b] = IntKind.i64.wrap (a * b) := by
 rw [Ex.eval_eq]; rfl
theorem NiQ (a b : Int) : (exq 5).eval [a, b] = bI (a == b) := by
 have h : (exq 5).eval [a, b] = if a = b then 1 else 0 := by rw [Ex.eval_eq]; rfl
 rw [h]; unfold bI; by_cases hab : a = b <;> simp [hab]
theorem NiA (a b : Int) : (exq 6).eval [a, b] = bI (decide (a < b)) := by
 have h : (exq 6).eval [a, b] = if a < b then 1 else 0 := by rw [Ex.eval_eq]; rfl
 rw [h]; unfold bI; by_cases hab : a < b <;> simp [hab]
theorem NiG (a b : Int) : (exq 7).eval [a, b] = IntKind.i64.wrap (0 - b) := by
 rw [Ex.eval_eq]; rfl
theorem NiP (a b : Int) : (exq 8).eval [a, b] = IntKind.i64.wrap (a - b) := by
 have h : (exq 8).eval [a, b] = IntKind.i64.wrap (a + IntKind.i64.wrap (0 - b)) := by rw [Ex.eval_eq]; rfl
 rw [h, IntKind.wrap_i64, IntKind.wrap_i64, IntKind.wrap_i64]
 omega
theorem NaV : cfgL3.ext 8 = none := by rfl
theorem NaN : cfgL3.ext 10 = none := by rfl
theorem NfO {a b : Int} : ∃ fuel, evP cfgL3 fuel 3 [.i .i64 a, .i .i64 b] = some (.b true) := by
 refine ⟨201 + 1, NgY rfl rfl (fun _ => rfl) (Nbq (by kernel_rfl : cfgL3.fn 3 = some m3) ?_)⟩
 unfold m3
 have gM : ∀ (st : St) (key : Nat), Nav (Nas cfgL3 (Na5 cfgL3 201) 7) false st key [.s Nex] = some (.agg [.nsl, .fsl 1 thrC], st) := fun st key => NaC rfl (by rw [Na7 (by kernel_rfl : cfgL3.ext 7 = some NdM)]; unfold NdM; exact if_pos rfl) rfl
 unfold Nex at gM
 have aw : ∀ (st : St) (key : Nat), Nav (Nas cfgL3 (Na5 cfgL3 201) 11) false st key [] = some (.b true, st) := fun st key => NaC rfl (by rw [Na7 (by kernel_rfl : cfgL3.ext 11 = some Ndl)]; rfl) rfl
 have bs : ∀ x : Int, (x == x) = true := fun x => by simp
 have bn : ∀ x : Int, (x != x) = false := fun x => by simp
 have hT : ∀ st : St, NaL st 1 (.fptr (thrC.drop 2)) = some [.fsl 9 insC] := fun st => rfl
 have l1 : NeI (.fsl 1 thrC) = some (.i .i64 ((1 : Nat) : Int)) := rfl
 have l9 : NeI (.fsl 9 insC) = some (.i .i64 ((9 : Nat) : Int)) := rfl
 simp only [Nar]
 (try rw [Z0])
 (try simp (maxSteps := 2000000) (disch := first | omega | rfl | assumption) only [↓Xp, ↓Xt, Xq, Xc, Nah, Naa, Nat.reduceAdd, Nat.reduceMul, Nat.reduceLT, Nat.reduceEqDiff, reduceIte, Xa, Xn, unP, Naf, Nae, Nad, Xm, Nat.reduceLeDiff, List.nil_append, List.cons_append])
 (try rw [Z0])
 (try simp (maxSteps := 2000000) (disch := first | omega | rfl | assumption) only [↓Xp, ↓Xt, Xq, Xc, Nah, Naa, Nat.reduceAdd, Nat.reduceMul, Nat.reduceLT, Nat.reduceEqDiff, reduceIte, Xa, Xn, unP, Naf, Nae, Nad, Xm, Nat.reduceLeDiff, List.nil_append, List.cons_append])
 (try rw [Z0])
 (try simp (maxSteps := 2000000) (disch := first | omega | rfl | assumption) only [↓Xp, ↓Xt, Xq, Xc, Nah, Naa, Nat.reduceAdd, Nat.reduceMul, Nat.reduceLT, Nat.reduceEqDiff, reduceIte, Xa, Xn, unP, Naf, Nae, Nad, Xm, Nat.reduceLeDiff, List.nil_append, List.cons_append, gM])
 (try rw [Z0])
 (try simp (maxSteps := 2000000) (disch := first | omega | rfl | assumption) only [↓Xp, ↓Xt, Xq, Xc, Nah, Naa, Nat.reduceAdd, Nat.reduceMul, Nat.reduceLT, Nat.reduceEqDiff, reduceIte, Xa, Xn, unP, Naf, Nae, Nad, Xm, Nat.reduceLeDiff, List.nil_append, List.cons_append, gM, bs, bn, hT, l1, l9, NbV])
 (try rw [Z0])
 (try simp (maxSteps := 2000000) (disch := first | omega | rfl | assumption) only [↓Xp, ↓Xt, Xq, Xc, Nah, Naa, Nat.reduceAdd, Nat.reduceMul, Nat.reduceLT, Nat.reduceEqDiff, reduceIte, Xa, Xn, unP, Naf, Nae, Nad, Xm, Nat.reduceLeDiff, List.nil_append, List.cons_append, gM, bs, bn, hT, l1, l9, NbV])
 (try rw [Z0])
 (try simp (maxSteps := 2000000) (disch := first | omega | rfl | assumption) only [↓Xp, ↓Xt, Xq, Xc, Nah, Naa, Nat.reduceAdd, Nat.reduceMul, Nat.reduceLT, Nat.reduceEqDiff, reduceIte, Xa, Xn, unP, Naf, Nae, Nad, Xm, Nat.reduceLeDiff, List.nil_append, List.cons_append, gM, bs, bn, hT, l1, l9, NbV])
 (try rw [Z0])
 (try simp (maxSteps := 2000000) (disch := first | omega | rfl | assumption) only [↓Xp, ↓Xt, Xq, Xc, Nah, Naa, Nat.reduceAdd, Nat.reduceMul, Nat.reduceLT, Nat.reduceEqDiff, reduceIte, Xa, Xn, unP, Naf, Nae, Nad, Xm, Nat.reduceLeDiff, List.nil_append, List.cons_append])
 refine Nd1 (fun x => ∃ K6 K5 KO : Nat, Rd3 a b K6 K5 KO x.env x.st) ?_ ?_
 ·exact ⟨57, 33, 25, rfl, rfl, rfl, rfl, by simp only; omega, by simp only; omega, by simp only; omega, by rw [NhL, St.get_putk], by simp (disch := omega) only [NhL, Nik]; rw [St.get_putk], by simp (disch := omega) only [NhL, Nik]; rw [St.get_putk]; rfl⟩
 rintro ⟨env, ⟨sto, c⟩⟩ ⟨K6, K5, KO, hb⟩
 rw [Z0, Z1]
 replace hb := hb.over (st' := ⟨sto, c + 480⟩) (fun j => rfl) (by simp only; omega)
 refine NaX 2 (fun c => Rd3 a b K6 K5 KO c.env c.st ∧ c.loc.get 28 = .i .i64 (IntKind.i64.wrap (a + b))) (by simp) ?_ ?_
 ·intro K hK
  have g0 := hb.g0
  have g1 := hb.g1
  have g7 := hb.g7
  have g8 := hb.g8
  simp (disch := first | omega | rfl | assumption) only [↓Xp, ↓Xt, Xq, Xc, Nah, Naa, Nat.reduceAdd, Nat.reduceMul, Nat.reduceLT, Nat.reduceEqDiff, reduceIte, Xa, Xn, unP, Naf, Nae, Nad, Xm, Nat.reduceLeDiff, List.take_succ_cons, List.take_zero, g0, g1, g7, g8, bs, NaV, NaN]
  refine NeZ (Ncd (q := 200) (i := 2) (by omega) (by omega) (by omega) hb.c6 hb.c5 hb.cO hb.k6 hb.k5 hb.kO) ?_
  rintro r ⟨sto1, c1⟩ ⟨rfl, kj, hc1⟩
  rw [NiJ]
  exact hK _ ⟨hb.over kj hc1, by simp [Env.get_put]⟩
 clear hb
 rintro ⟨env, loc, ⟨sto, c⟩⟩ ⟨hb, q28⟩
 simp only at q28
 refine NaX 7 (fun c => Rd3 a b K6 K5 KO c.env c.st ∧ c.loc.get 33 = .b true ∧ c.loc.get 35 = .i .i64 (IntKind.i64.wrap (a - b))) (by simp) ?_ ?_
 ·intro K hK
  have g0 := hb.g0
  have g1 := hb.g1
  have g7 := hb.g7
  have g8 := hb.g8
  simp (disch := first | omega | rfl | assumption) only [↓Xp, ↓Xt, Xq, Xc, Nah, Naa, Nat.reduceAdd, Nat.reduceMul, Nat.reduceLT, Nat.reduceEqDiff, reduceIte, Xa, Xn, unP, Naf, Nae, Nad, Xm, Nat.reduceLeDiff, List.take_succ_cons, List.take_zero, g0, g1, g7, g8, bs, NaV, NaN, q28]
  refine NeZ (Ncd (q := 200) (i := 3) (by omega) (by omega) (by omega) hb.c6 hb.c5 hb.cO hb.k6 hb.k5 hb.kO) ?_
  rintro r ⟨sto1, c1⟩ ⟨rfl, kj, hc1⟩
  rw [Nh2]
  exact hK _ ⟨hb.over kj hc1, by simp [Env.get_put, q28], by simp [Env.get_put, q28]⟩
 clear hb q28
 rintro ⟨env, loc, ⟨sto, c⟩⟩ ⟨hb, q33, q35⟩
 simp only at q33 q35
 refine NaX 8 (fun c => Rd3 a b K6 K5 KO c.env c.st ∧ c.loc.get 41 = .b true ∧ c.loc.get 43 = .i .i64 (IntKind.i64.wrap (a * b))) (by simp) ?_ ?_
 ·intro K hK
  have g0 := hb.g0
  have g1 := hb.g1
  have g7 := hb.g7
  have g8 := hb.g8
  simp (disch := first | omega | rfl | assumption) only [↓Xp, ↓Xt, Xq, Xc, Nah, Naa, Nat.reduceAdd, Nat.reduceMul, Nat.reduceLT, Nat.reduceEqDiff, reduceIte, Xa, Xn, unP, Naf, Nae, Nad, Xm, Nat.reduceLeDiff, List.take_succ_cons, List.take_zero, g0, g1, g7, g8, bs, NaV, NaN, q33, q35]
  refine NeZ (Ncd (q := 200) (i := 4) (by omega) (by omega) (by omega) hb.c6 hb.c5 hb.cO hb.k6 hb.k5 hb.kO) ?_
  rintro r ⟨sto1, c1⟩ ⟨rfl, kj, hc1⟩
  rw [NiK]
  exact hK _ ⟨hb.over kj hc1, by simp [Env.get_put, q33, q35], by simp [Env.get_put, q33, q35]⟩
 clear hb q33 q35
 rintro ⟨env, loc, ⟨sto, c⟩⟩ ⟨hb, q41, q43⟩
 simp only at q41 q43
 refine NaX 8 (fun c => Rd3 a b K6 K5 KO c.env c.st ∧ c.loc.get 49 = .b true ∧ c.loc.get 51 = .i .i64 (bI (a == b))) (by simp) ?_ ?_
 ·intro K hK
  have g0 := hb.g0
  have g1 := hb.g1
  have g7 := hb.g7
  have g8 := hb.g8
  simp (disch := first | omega | rfl | assumption) only [↓Xp, ↓Xt, Xq, Xc, Nah, Naa, Nat.reduceAdd, Nat.reduceMul, Nat.reduceLT, Nat.reduceEqDiff, reduceIte, Xa, Xn, unP, Naf, Nae, Nad, Xm, Nat.reduceLeDiff, List.take_succ_cons, List.take_zero, g0, g1, g7, g8, bs, NaV, NaN, q41, q43]
  refine NeZ (Ncd (q := 200) (i := 5) (by omega) (by omega) (by omega) hb.c6 hb.c5 hb.cO hb.k6 hb.k5 hb.kO) ?_
  rintro r ⟨sto1, c1⟩ ⟨rfl, kj, hc1⟩
  rw [NiQ]
  exact hK _ ⟨hb.over kj hc1, by simp [Env.get_put, q41, q43], by simp [Env.get_put, q41, q43]⟩
 clear hb q41 q43
 rintro ⟨env, loc, ⟨sto, c⟩⟩ ⟨hb, q49, q51⟩
 simp only at q49 q51
 refine NaX 5 (fun c => Rd3 a b K6 K5 KO c.env c.st ∧ c.loc.get 49 = .b true ∧ c.loc.get 51 = .i .i64 (bI (a == b)) ∧ c.loc.get 56 = .i .i64 (bI (a == b))) (by simp) ?_ ?_
 ·intro K hK
  have g0 := hb.g0
  have g1 := hb.g1
  have g7 := hb.g7
  have g8 := hb.g8
  simp (disch := first | omega | rfl | assumption) only [↓Xp, ↓Xt, Xq, Xc, Nah, Naa, Nat.reduceAdd, Nat.reduceMul, Nat.reduceLT, Nat.reduceEqDiff, reduceIte, Xa, Xn, unP, Naf, Nae, Nad, Xm, Nat.reduceLeDiff, List.take_succ_cons, List.take_zero, g0, g1, g7, g8, bs, NaV, NaN, q49, q51]
  refine NeZ Nfr ?_
  rintro r ⟨sto1, c1⟩ ⟨rfl, kj, hc1⟩
  exact hK _ ⟨hb.over kj hc1, by simp [Env.get_put, q49, q51], by simp [Env.get_put, q49, q51], by simp [Env.get_put, q49, q51]⟩
 clear hb q49 q51
 rintro ⟨env, loc, ⟨sto, c⟩⟩ ⟨hb, q49, q51, q56⟩
 simp only at q49 q51 q56
 refine NaX 5 (fun c => Rd3 a b K6 K5 KO c.env c.st ∧ c.loc.get 59 = .b true ∧ c.loc.get 61 = .i .i64 (bI (decide (a < b)))) (by simp) ?_ ?_
 ·intro K hK
  have g0 := hb.g0
  have g1 := hb.g1
  have g7 := hb.g7
  have g8 := hb.g8
  simp (disch := first | omega | rfl | assumption) only [↓Xp, ↓Xt, Xq, Xc, Nah, Naa, Nat.reduceAdd, Nat.reduceMul, Nat.reduceLT, Nat.reduceEqDiff, reduceIte, Xa, Xn, unP, Naf, Nae, Nad, Xm, Nat.reduceLeDiff, List.take_succ_cons, List.take_zero, g0, g1, g7, g8, bs, NaV, NaN, q49, q51, q56]
  refine NeZ (Ncd (q := 200) (i := 6) (by omega) (by omega) (by omega) hb.c6 hb.c5 hb.cO hb.k6 hb.k5 hb.kO) ?_
  rintro r ⟨sto1, c1⟩ ⟨rfl, kj, hc1⟩
  rw [NiA]
  exact hK _ ⟨hb.over kj hc1, by simp [Env.get_put, q49, q51, q56], by simp [Env.get_put, q49, q51, q56]⟩
 clear hb q49 q51 q56
 rintro ⟨env, loc, ⟨sto, c⟩⟩ ⟨hb, q59, q61⟩
 simp only at q59 q61
 refine NaX 5 (fun c => Rd3 a b K6 K5 KO c.env c.st ∧ c.loc.get 59 = .b true ∧ c.loc.get 61 = .i .i64 (bI (decide (a < b))) ∧ c.loc.get 66 = .i .i64 (bI (decide (a < b)))) (by simp) ?_ ?_
 ·intro K hK
  have g0 := hb.g0
  have g1 := hb.g1
  have g7 := hb.g7
  have g8 := hb.g8
  simp (disch := first | omega | rfl | assumption) only [↓Xp, ↓Xt, Xq, Xc, Nah, Naa, Nat.reduceAdd, Nat.reduceMul, Nat.reduceLT, Nat.reduceEqDiff, reduceIte, Xa, Xn, unP, Naf, Nae, Nad, Xm, Nat.reduceLeDiff, List.take_succ_cons, List.take_zero, g0, g1, g7, g8, bs, NaV, NaN, q59, q61]
  refine NeZ Nfr ?_
  rintro r ⟨sto1, c1⟩ ⟨rfl, kj, hc1⟩
  exact hK _ ⟨hb.over kj hc1, by simp [Env.get_put, q59, q61], by simp [Env.get_put, q59, q61], by simp [Env.get_put, q59, q61]⟩
 clear hb q59 q61
 rintro ⟨env, loc, ⟨sto, c⟩⟩ ⟨hb, q59, q61, q66⟩
 simp only at q59 q61 q66
 refine NaX 5 (fun c => Rd3 a b K6 K5 KO c.env c.st ∧ c.loc.get 69 = .b true ∧ c.loc.get 71 = .i .i64 (IntKind.i64.wrap (0 - b))) (by simp) ?_ ?_
 ·intro K hK
  have g0 := hb.g0
  have g1 := hb.g1
  have g7 := hb.g7
  have g8 := hb.g8
  simp (disch := first | omega | rfl | assumption) only [↓Xp, ↓Xt, Xq, Xc, Nah, Naa, Nat.reduceAdd, Nat.reduceMul, Nat.reduceLT, Nat.reduceEqDiff, reduceIte, Xa, Xn, unP, Naf, Nae, Nad, Xm, Nat.reduceLeDiff, List.take_succ_cons, List.take_zero, g0, g1, g7, g8, bs, NaV, NaN, q59, q61, q66]
  refine NeZ (Ncd (q := 200) (i := 7) (by omega) (by omega) (by omega) hb.c6 hb.c5 hb.cO hb.k6 hb.k5 hb.kO) ?_
  rintro r ⟨sto1, c1⟩ ⟨rfl, kj, hc1⟩
  rw [NiG]
  exact hK _ ⟨hb.over kj hc1, by simp [Env.get_put, q59, q61, q66], by simp [Env.get_put, q59, q61, q66]⟩
 clear hb q59 q61 q66
 rintro ⟨env, loc, ⟨sto, c⟩⟩ ⟨hb, q69, q71⟩
 simp only at q69 q71
 refine NaX 7 (fun c => Rd3 a b K6 K5 KO c.env c.st ∧ c.loc.get 76 = .b true ∧ c.loc.get 78 = .i .i64 (IntKind.i64.wrap (a - b))) (by simp) ?_ ?_
 ·intro K hK
  have g0 := hb.g0
  have g1 := hb.g1
  have g7 := hb.g7
  have g8 := hb.g8
  simp (disch := first | omega | rfl | assumption) only [↓Xp, ↓Xt, Xq, Xc, Nah, Naa, Nat.reduceAdd, Nat.reduceMul, Nat.reduceLT, Nat.reduceEqDiff, reduceIte, Xa, Xn, unP, Naf, Nae, Nad, Xm, Nat.reduceLeDiff, List.take_succ_cons, List.take_zero, g0, g1, g7, g8, bs, NaV, NaN, q69, q71]
  refine NeZ (Ncd (q := 200) (i := 8) (by omega) (by omega) (by omega) hb.c6 hb.c5 hb.cO hb.k6 hb.k5 hb.kO) ?_
  rintro r ⟨sto1, c1⟩ ⟨rfl, kj, hc1⟩
  rw [NiP]
  exact hK _ ⟨hb.over kj hc1, by simp [Env.get_put, q69, q71], by simp [Env.get_put, q69, q71]⟩
 clear hb q69 q71
 rintro ⟨env, loc, ⟨sto, c⟩⟩ ⟨hb, q76, q78⟩
 simp only at q76 q78
 refine NaX 2 (fun c => Rd3 a b K6 K5 KO c.env c.st ∧ c.loc.get 76 = .b true ∧ c.loc.get 78 = .i .i64 (IntKind.i64.wrap (a - b)) ∧ c.loc.get 80 = .i .i64 (IntKind.i64.wrap (a - b))) (by simp) ?_ ?_
 ·intro K hK
  have g0 := hb.g0
  have g1 := hb.g1
  have g7 := hb.g7
  have g8 := hb.g8
  simp (disch := first | omega | rfl | assumption) only [↓Xp, ↓Xt, Xq, Xc, Nah, Naa, Nat.reduceAdd, Nat.reduceMul, Nat.reduceLT, Nat.reduceEqDiff, reduceIte, Xa, Xn, unP, Naf, Nae, Nad, Xm, Nat.reduceLeDiff, List.take_succ_cons, List.take_zero, g0, g1, g7, g8, bs, NaV, NaN, q76, q78]
  refine NeZ (Ncd (q := 200) (i := 3) (by omega) (by omega) (by omega) hb.c6 hb.c5 hb.cO hb.k6 hb.k5 hb.kO) ?_
  rintro r ⟨sto1, c1⟩ ⟨rfl, kj, hc1⟩
  rw [Nh2]
  exact hK _ ⟨hb.over kj hc1, by simp [Env.get_put, q76, q78], by simp [Env.get_put, q76, q78], by simp [Env.get_put, q76, q78]⟩
 clear hb q76 q78
 rintro ⟨env, loc, ⟨sto, c⟩⟩ ⟨hb, q76, q78, q80⟩
 simp only at q76 q78 q80
 have g0 := hb.g0
 simp (disch := first | omega | rfl | assumption) only [↓Xp, ↓Xt, Xq, Xc, Nah, Naa, Nat.reduceAdd, Nat.reduceMul, Nat.reduceLT, Nat.reduceEqDiff, reduceIte, Xa, Xn, unP, Naf, Nae, Nad, Xm, Nat.reduceLeDiff, List.drop_succ_cons, List.drop_zero, bs, aw, q76, q78, q80]
 exact ⟨nofun, _, rfl, by simp only [NbO, Env.get_put, if_true]⟩
theorem Ne1 (a b : Int) : ∃ fuel, evP cfgL3 fuel 3 [.i .i64 a, .i .i64 b] = some (.b true) := NfO
end Go.Pe
