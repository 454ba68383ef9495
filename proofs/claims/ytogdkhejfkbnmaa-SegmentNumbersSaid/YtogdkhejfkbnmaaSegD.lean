/-
  Segments: a column read, by the interpreter of plain data. No condition.
-/
import Derived.Test.YtogdkhejfkbnmaaSegC
set_option linter.unusedVariables false
set_option linter.unusedSimpArgs false
namespace Go.Pe
open Go Go.Am Go.RowKit

def runV (k : Nat) : Nat → Int → Int → Option (List Int × Int)
  | 0, n, _ => some ([], n)
  | r + 1, n, more => if colOK k (IntKind.i64.wrap (n + more)) then (runV k r (IntKind.i64.wrap (n + more)) more).map fun p => (IntKind.i64.wrap (n + more) :: p.1, p.2) else none
def colV (b : List UInt8) (k : Nat) : Nat → Nat → Int → Int → Bool → Int → Option (List Int × Int)
  | 0, m, _, _, _, at0 => if m = 0 then some ([], at0) else none
  | f + 1, m, n, last, fst, at0 =>
    if m = 0 then some ([], at0)
    else if (getI b at0).2.2 ≠ 0 then none
    else if (getU b (getI b at0).2.1).2.2 ≠ 0 ∨ (getU b (getI b at0).2.1).1 < 1 ∨ m < (getU b (getI b at0).2.1).1 ∨ (fst = false ∧ (getI b at0).1 = last) then none
    else match runV k (getU b (getI b at0).2.1).1 n (getI b at0).1 with
      | none => none
      | some (vs, n') => (colV b k f (m - (getU b (getI b at0).2.1).1) n' (getI b at0).1 false (getU b (getI b at0).2.1).2.1).map fun p => (vs ++ p.1, p.2)
def comb2 (P : List Int) (o : Option (List Int × Int)) : Option (List Int × Int) := o.map fun p => (P ++ p.1, p.2)
theorem comb2_nil (o : Option (List Int × Int)) : comb2 [] o = o := by cases o <;> rfl
theorem comb2_two (P Q : List Int) (o : Option (List Int × Int)) : comb2 P (o.map fun p => (Q ++ p.1, p.2)) = comb2 (P ++ Q) o := by
  cases o with
  | none => rfl
  | some p => simp [comb2]
def setC (k : Nat) (L : List Ev) (vs : List Int) : List Ev := List.zipWith (colS k) L vs
def sofar (k : Nat) (L : List Ev) (P : List Int) : List Ev := setC k (L.take P.length) P ++ L.drop P.length
theorem setC_len {k : Nat} {L : List Ev} {vs : List Int} (h : L.length = vs.length) : (setC k L vs).length = L.length := by simp [setC, h]
theorem sofar_len {k : Nat} {L : List Ev} {P : List Int} (h : P.length ≤ L.length) : (sofar k L P).length = L.length := by
  unfold sofar
  rw [List.length_append, setC_len (by rw [List.length_take]; omega), List.length_take, List.length_drop]; omega
theorem sofar_nil (k : Nat) (L : List Ev) : sofar k L [] = L := by simp [sofar, setC]
theorem sofar_step {k : Nat} {L : List Ev} {P : List Int} (h : P.length < L.length) (n : Int) : (sofar k L P).set P.length (colS k ((sofar k L P).getD P.length .zero) n) = sofar k L (P ++ [n]) := by
  have hs : (setC k (L.take P.length) P).length = P.length := by rw [setC_len (by rw [List.length_take]; omega), List.length_take]; omega
  have hd : L.drop P.length = L.getD P.length .zero :: L.drop (P.length + 1) := by
    rw [List.drop_eq_getElem_cons h]; simp [List.getD_eq_getElem?_getD, h]
  have hg : (sofar k L P).getD P.length .zero = L.getD P.length .zero := by
    unfold sofar
    rw [hd, List.getD_eq_getElem?_getD, List.getElem?_append_right (by omega), hs]
    simp
  rw [hg]
  unfold sofar
  rw [List.set_append_right _ _ (by omega), hs, Nat.sub_self, hd, List.set_cons_zero, List.length_append, List.length_singleton]
  have ht : L.take (P.length + 1) = L.take P.length ++ [L.getD P.length .zero] := by
    rw [List.take_succ_eq_append_getElem h]
    congr 2
    simp [List.getD_eq_getElem?_getD, h]
  rw [ht]
  unfold setC
  rw [List.zipWith_append (by rw [List.length_take]; omega)]
  simp
theorem sofar_all {k : Nat} {L : List Ev} {P : List Int} (h : P.length = L.length) : sofar k L P = setC k L P := by
  unfold sofar
  rw [h, List.take_length, List.drop_length, List.append_nil]
theorem getI_in {b : List UInt8} {a : Int} : -9223372036854775808 ≤ (getI b a).1 ∧ (getI b a).1 ≤ 9223372036854775807 := by
  unfold getI
  have := getU_lt b a
  split
  · simp only; unfold openI; split <;> omega
  · simp
theorem wrap_in64 (x : Int) : -9223372036854775808 ≤ IntKind.i64.wrap x ∧ IntKind.i64.wrap x ≤ 9223372036854775807 := by
  rw [IntKind.wrap_i64]; omega
set_option maxHeartbeats 16000000 in
set_option maxRecDepth 100000 in
theorem column_ev {cfg : Cfg} (hf : cfg.fn 46 = some m46) (hfp : ∀ k, k < 5 → cfg.fn (putId k) = lookT (putId k) tblL) (hxp : ∀ k, k < 5 → cfg.ext (putId k) = none) (hx1 : cfg.ext 75 = some gGetI) (hx2 : cfg.ext 45 = some gGetU)
    {v : PV} {b : List UInt8} {st : St} {q : Nat} (hv : ∀ st2 : St, (∀ j, j < st.cnt → j ≠ q → st2.get j = st.get j) → ∃ v', deep st2 12 v = some v' ∧ inL v' = some b) (hb : b.length ≤ 140737488355000) {at0 : Int} {L : List Ev} {k : Nat} (hk5 : k < 5) (hq : st.get q = some (.cells (evsC L) false)) (hqc : q < st.cnt) {fuel : Nat} (hfu : 1048600 ≤ fuel) (hL : L.length ≤ 1048576) :
    ∃ r st', evFn cfg (fuel + 1 + 1) 46 [v, .i .i64 at0, .rsl q 5 0 L.length, .fn (putId k) []] st = some (r, st') ∧ st.cnt ≤ st'.cnt ∧ (∀ j, j < st.cnt → j ≠ q → st'.get j = st.get j) ∧
      (match colV b k L.length L.length 0 0 true at0 with
        | some (vs, a) => r = .tup [.i .i64 a, .b true] ∧ vs.length = L.length ∧ st'.get q = some (.cells (evsC (setC k L vs)) false)
        | none => r = .tup [.i .i64 0, .b false]) := by
  refine evFn_W hf ?_
  unfold m46
  obtain ⟨sto0, c0⟩ := st
  simp only at hqc
  have cu : ∀ (st : St) (hfr : ∀ j, j < c0 → j ≠ q → st.get j = St.get ⟨sto0, c0⟩ j) (key : Nat) (a : Int), callStep (runPure cfg (evFn cfg (fuel + 1)) 45) false st key [v, .i .i64 a] = some (.tup [.i .u64 ((getU b a).1 : Int), .i .i64 (getU b a).2.1, .i .i64 (getU b a).2.2], st) := by
    intro st hfr key a
    obtain ⟨v', hd, hi⟩ := hv st hfr
    refine call_deepb (deep_2 hd (deep_i st .i64 a)) ?_ rfl rfl
    rw [runPure_ext hx2]
    unfold gGetU
    simp only [hi]
    rw [if_pos (by omega)]
    rfl
  have ci : ∀ (st : St) (hfr : ∀ j, j < c0 → j ≠ q → st.get j = St.get ⟨sto0, c0⟩ j) (key : Nat) (a : Int), callStep (runPure cfg (evFn cfg (fuel + 1)) 75) false st key [v, .i .i64 a] = some (.tup [.i .i64 ((getI b a).1), .i .i64 (getI b a).2.1, .i .i64 (getI b a).2.2], st) := by
    intro st hfr key a
    obtain ⟨v', hd, hi⟩ := hv st hfr
    refine call_deepb (deep_2 hd (deep_i st .i64 a)) ?_ rfl rfl
    rw [runPure_ext hx1]
    unfold gGetI
    simp only [hi]
    rw [if_pos (by omega)]
    rfl
  have hlr : ∀ (a b c n : Nat), lenP (.rsl a b c n) = some (.i .i64 n) := fun _ _ _ _ => rfl
  have hxk := hxp k hk5
  obtain ⟨RES, hRES⟩ : ∃ R, colV b k L.length L.length 0 0 true at0 = R := ⟨_, rfl⟩
  rw [hRES]
  refine Za (fun x => x.env.get 0 = v ∧ x.env.get 1 = .i .i64 at0 ∧ x.env.get 2 = .rsl q 5 0 L.length ∧ x.env.get 3 = .fn (putId k) [] ∧ c0 ≤ x.st.cnt ∧ ∀ j, j < c0 → x.st.get j = St.get ⟨sto0, c0⟩ j) ?_ ?_
  · simp (disch := first | omega | rfl | assumption) only [putArgs, ↓Z0, ↓Xp, ↓Xt, Xq, Xc, binP, ofCells, Nat.reduceAdd, Nat.reduceMul, Nat.reduceLT, Nat.reduceEqDiff, reduceIte, Xm, Nat.reduceLeDiff, Xa, Xn]
    exact fun j _ => rfl
  rintro ⟨env, ⟨sto, c⟩⟩ ⟨g0, g1, g2, g3, hc, hj⟩
  simp only at g0 g1 g2 g3 hc hj
  refine Za (fun x => x.env.get 0 = v ∧ x.env.get 1 = .i .i64 at0 ∧ x.env.get 2 = .rsl q 5 0 L.length ∧ x.env.get 3 = .fn (putId k) [] ∧ x.env.get 10 = .i .i64 ((0 : Nat) : Int) ∧ x.env.get 11 = .i .i64 ((0 : Nat) : Int) ∧ c0 ≤ x.st.cnt ∧ ∀ j, j < c0 → x.st.get j = St.get ⟨sto0, c0⟩ j) ?_ ?_
  · simp (disch := first | omega | rfl | assumption) only [↓Z0, ↓Xp, ↓Xt, Xq, Xc, binP, ofCells, Nat.reduceAdd, Nat.reduceMul, Nat.reduceLT, Nat.reduceEqDiff, reduceIte, Xm, Nat.reduceLeDiff, Xa, Xn, g0, g1, g2, g3]
    (repeat' (first | exact True.intro | rfl | assumption | omega | apply And.intro))
  clear g0 g1 g2 g3 hc hj
  rintro ⟨env, ⟨sto, c⟩⟩ ⟨g0, g1, g2, g3, g10, g11, hc, hj⟩
  simp only at g0 g1 g2 g3 g10 g11 hc hj
  refine WC_cutR (fun x => ∃ vs a, RES = some (vs, a) ∧ vs.length = L.length ∧ x.env.get 1 = .i .i64 a ∧ x.st.get q = some (.cells (evsC (setC k L vs)) false) ∧ c0 ≤ x.st.cnt ∧ ∀ j, j < c0 → j ≠ q → x.st.get j = St.get ⟨sto0, c0⟩ j) ?_ ?_
  · rw [Z0]
    simp (disch := first | omega | rfl | assumption) only [↓Xp, ↓Xt, Xq, Xc, binP, ofCells, Nat.reduceAdd, Nat.reduceMul, Nat.reduceLT, Nat.reduceEqDiff, reduceIte, g0, g1, g2, g3, g10, g11]
    refine Z9 (k := L.length - 0) (fun d x => ∃ (f : Nat) (n last a : Int) (P : List Int), P.length ≤ L.length ∧ d = L.length - P.length ∧ L.length - P.length ≤ f ∧ comb2 P (colV b k f (L.length - P.length) n last (P.length == 0) a) = RES ∧ x.env.get 0 = v ∧ x.env.get 1 = .i .i64 a ∧ x.env.get 2 = .rsl q 5 0 L.length ∧ x.env.get 3 = .fn (putId k) [] ∧ x.env.get 10 = .i .i64 n ∧ x.env.get 11 = .i .i64 last ∧ x.env.get 12 = .i .i64 (P.length : Int) ∧ x.st.get q = some (.cells (evsC (sofar k L P)) false) ∧ c0 ≤ x.st.cnt ∧ ∀ j, j < c0 → j ≠ q → x.st.get j = St.get ⟨sto0, c0⟩ j) ?_ ?_ (by omega)
    · clear g0 g1 g2 g3 g10 g11 hc hj
      rintro d ⟨env, ⟨sto, c⟩⟩ ⟨f, n, last, a, P, hP, rfl, hf2, hR, g0, g1, g2, g3, g10, g11, g12, kq, hc, hj⟩
      simp only at g0 g1 g2 g3 g10 g11 g12 kq hc hj
      by_cases hlt : P.length < L.length
      · obtain ⟨f, rfl⟩ : ∃ g, f = g + 1 := ⟨f - 1, by omega⟩
        have ci1 := fun st hfr key => ci st hfr key a
        have hm0 : ¬ L.length - P.length = 0 := by omega
        rw [show colV b k (f + 1) (L.length - P.length) n last (P.length == 0) a = _ from rfl] at hR
        unfold colV at hR
        rw [if_neg hm0] at hR
        have hIr := getI_in (b := b) (a := a)
        generalize getI b a = TI at hR ci1 hIr
        obtain ⟨mo, nx, e⟩ := TI
        simp only at hR ci1 hIr
        have ciA := fun n key => ci1 ⟨sto, n⟩ hj key
        by_cases he : e ≠ 0
        · rw [if_pos he] at hR
          have hR0 : RES = none := hR.symm
          subst hR0
          simp (disch := first | omega | rfl | assumption) only [↓Z0, ↓Xp, ↓Xt, Xq, Xc, binP, ofCells, Nat.reduceAdd, Nat.reduceMul, Nat.reduceLT, Nat.reduceEqDiff, reduceIte, Xm, Nat.reduceLeDiff, Xa, Xn, g0, g1, g2, g3, g10, g11, g12, hlr, ciA]
          refine ⟨nofun, _, rfl, ?_⟩
          simp only [tupV, ↓Z0, ↓Xp, ↓Xt, Xq, Xc, binP, ofCells, Nat.reduceAdd, Nat.reduceMul, Nat.reduceLT, Nat.reduceEqDiff, reduceIte]
          (repeat' (first | exact True.intro | rfl | assumption | omega | apply And.intro))
        rw [if_neg he] at hR
        have cu1 := fun st hfr key => cu st hfr key nx
        have hUlt := getU_lt b nx
        generalize getU b nx = TU at hR cu1 hUlt
        obtain ⟨run, bh, e2⟩ := TU
        simp only at hR cu1 hUlt
        have cuA := fun n key => cu1 ⟨sto, n⟩ hj key
        have hws : IntKind.u64.wrap (IntKind.i64.wrap ((L.length : Int) - (P.length : Int))) = ((L.length - P.length : Nat) : Int) := by
          rw [wr_i64 _ ⟨by omega, by omega⟩, wr_u64 _ ⟨by omega, by omega⟩]; omega
        by_cases h1 : e2 ≠ 0
        · rw [if_pos (.inl h1)] at hR
          have hR0 : RES = none := hR.symm
          subst hR0
          simp (disch := first | omega | rfl | assumption) only [↓Z0, ↓Xp, ↓Xt, Xq, Xc, binP, ofCells, Nat.reduceAdd, Nat.reduceMul, Nat.reduceLT, Nat.reduceEqDiff, reduceIte, Xm, Nat.reduceLeDiff, Xa, Xn, g0, g1, g2, g3, g10, g11, g12, hlr, ciA, cuA, hws]
          refine ⟨nofun, _, rfl, ?_⟩
          simp only [tupV, ↓Z0, ↓Xp, ↓Xt, Xq, Xc, binP, ofCells, Nat.reduceAdd, Nat.reduceMul, Nat.reduceLT, Nat.reduceEqDiff, reduceIte]
          (repeat' (first | exact True.intro | rfl | assumption | omega | apply And.intro))
        by_cases h2 : run < 1
        · rw [if_pos (.inr (.inl h2))] at hR
          have hR0 : RES = none := hR.symm
          subst hR0
          simp (disch := first | omega | rfl | assumption) only [↓Z0, ↓Xp, ↓Xt, Xq, Xc, binP, ofCells, Nat.reduceAdd, Nat.reduceMul, Nat.reduceLT, Nat.reduceEqDiff, reduceIte, Xm, Nat.reduceLeDiff, Xa, Xn, g0, g1, g2, g3, g10, g11, g12, hlr, ciA, cuA, hws]
          refine ⟨nofun, _, rfl, ?_⟩
          simp only [tupV, ↓Z0, ↓Xp, ↓Xt, Xq, Xc, binP, ofCells, Nat.reduceAdd, Nat.reduceMul, Nat.reduceLT, Nat.reduceEqDiff, reduceIte]
          (repeat' (first | exact True.intro | rfl | assumption | omega | apply And.intro))
        by_cases h3 : L.length - P.length < run
        · rw [if_pos (.inr (.inr (.inl h3)))] at hR
          have hR0 : RES = none := hR.symm
          subst hR0
          simp (disch := first | omega | rfl | assumption) only [↓Z0, ↓Xp, ↓Xt, Xq, Xc, binP, ofCells, Nat.reduceAdd, Nat.reduceMul, Nat.reduceLT, Nat.reduceEqDiff, reduceIte, Xm, Nat.reduceLeDiff, Xa, Xn, g0, g1, g2, g3, g10, g11, g12, hlr, ciA, cuA, hws]
          refine ⟨nofun, _, rfl, ?_⟩
          simp only [tupV, ↓Z0, ↓Xp, ↓Xt, Xq, Xc, binP, ofCells, Nat.reduceAdd, Nat.reduceMul, Nat.reduceLT, Nat.reduceEqDiff, reduceIte]
          (repeat' (first | exact True.intro | rfl | assumption | omega | apply And.intro))
        have hbt : (P.length == 0) = decide (P.length = 0) := rfl
        by_cases h4 : 0 < P.length ∧ mo = last
        · have hpf : (P.length == 0) = false := by rw [hbt]; exact decide_eq_false (by omega)
          obtain ⟨h4a, h4b⟩ := h4
          rw [if_pos (.inr (.inr (.inr ⟨hpf, h4b⟩)))] at hR
          have hR0 : RES = none := hR.symm
          subst hR0
          simp (disch := first | omega | rfl | assumption) only [↓Z0, ↓Xp, ↓Xt, Xq, Xc, binP, ofCells, Nat.reduceAdd, Nat.reduceMul, Nat.reduceLT, Nat.reduceEqDiff, reduceIte, Xm, Nat.reduceLeDiff, Xa, Xn, g0, g1, g2, g3, g10, g11, g12, hlr, ciA, cuA, hws]
          refine ⟨nofun, _, rfl, ?_⟩
          simp only [tupV, ↓Z0, ↓Xp, ↓Xt, Xq, Xc, binP, ofCells, Nat.reduceAdd, Nat.reduceMul, Nat.reduceLT, Nat.reduceEqDiff, reduceIte]
          (repeat' (first | exact True.intro | rfl | assumption | omega | apply And.intro))
        rw [if_neg (by
          rintro (h | h | h | ⟨h, h'⟩)
          · exact h1 h
          · exact h2 h
          · exact h3 h
          · refine h4 ⟨?_, h'⟩
            rw [hbt] at h
            have := of_decide_eq_false h
            omega)] at hR
        -- behind the tests
        refine Za (fun x => x.env.get 0 = v ∧ x.env.get 1 = .i .i64 a ∧ x.env.get 2 = .rsl q 5 0 L.length ∧ x.env.get 3 = .fn (putId k) [] ∧ x.env.get 10 = .i .i64 n ∧ x.env.get 11 = .i .i64 last ∧ x.env.get 12 = .i .i64 (P.length : Int) ∧ x.st.get q = some (.cells (evsC (sofar k L P)) false) ∧ c0 ≤ x.st.cnt ∧ ∀ j, j < c0 → j ≠ q → x.st.get j = St.get ⟨sto0, c0⟩ j) ?_ ?_
        · simp (disch := first | omega | rfl | assumption) only [↓Z0, ↓Xp, ↓Xt, Xq, Xc, binP, ofCells, Nat.reduceAdd, Nat.reduceMul, Nat.reduceLT, Nat.reduceEqDiff, reduceIte, Xm, Nat.reduceLeDiff, Xa, Xn, g0, g1, g2, g3, g10, g11, g12, hlr]
          (repeat' (first | exact True.intro | rfl | assumption | omega | apply And.intro))
        clear g0 g1 g2 g3 g10 g11 g12 kq hc hj
        rintro ⟨env, ⟨sto, c⟩⟩ ⟨g0, g1, g2, g3, g10, g11, g12, kq, hc, hj⟩
        simp only at g0 g1 g2 g3 g10 g11 g12 kq hc hj
        have ciA := fun n key => ci1 ⟨sto, n⟩ hj key
        rw [Z2]
        refine Za (fun x => x.env.get 0 = v ∧ x.env.get 13 = .i .i64 mo ∧ x.env.get 14 = .i .i64 nx ∧ x.env.get 15 = .i .i64 e ∧ x.env.get 2 = .rsl q 5 0 L.length ∧ x.env.get 3 = .fn (putId k) [] ∧ x.env.get 10 = .i .i64 n ∧ x.env.get 11 = .i .i64 last ∧ x.env.get 12 = .i .i64 (P.length : Int) ∧ x.st.get q = some (.cells (evsC (sofar k L P)) false) ∧ c0 ≤ x.st.cnt ∧ ∀ j, j < c0 → j ≠ q → x.st.get j = St.get ⟨sto0, c0⟩ j) ?_ ?_
        · simp (disch := first | omega | rfl | assumption) only [↓Z0, ↓Xp, ↓Xt, Xq, Xc, binP, ofCells, Nat.reduceAdd, Nat.reduceMul, Nat.reduceLT, Nat.reduceEqDiff, reduceIte, Xm, Nat.reduceLeDiff, Xa, Xn, g0, g1, g2, g3, g10, g11, g12, hlr, ciA]
          (repeat' (first | exact True.intro | rfl | assumption | omega | apply And.intro))
        clear g0 g1 g2 g3 g10 g11 g12 kq hc hj
        rintro ⟨env, ⟨sto, c⟩⟩ ⟨g0, g13, g14, g15, g2, g3, g10, g11, g12, kq, hc, hj⟩
        simp only at g0 g13 g14 g15 g2 g3 g10 g11 g12 kq hc hj
        refine Za (fun x => x.env.get 0 = v ∧ x.env.get 13 = .i .i64 mo ∧ x.env.get 14 = .i .i64 nx ∧ x.env.get 2 = .rsl q 5 0 L.length ∧ x.env.get 3 = .fn (putId k) [] ∧ x.env.get 10 = .i .i64 n ∧ x.env.get 11 = .i .i64 last ∧ x.env.get 12 = .i .i64 (P.length : Int) ∧ x.st.get q = some (.cells (evsC (sofar k L P)) false) ∧ c0 ≤ x.st.cnt ∧ ∀ j, j < c0 → j ≠ q → x.st.get j = St.get ⟨sto0, c0⟩ j) ?_ ?_
        · simp (disch := first | omega | rfl | assumption) only [↓Z0, ↓Xp, ↓Xt, Xq, Xc, binP, ofCells, Nat.reduceAdd, Nat.reduceMul, Nat.reduceLT, Nat.reduceEqDiff, reduceIte, Xm, Nat.reduceLeDiff, Xa, Xn, g0, g13, g14, g15, g2, g3, g10, g11, g12]
          (repeat' (first | exact True.intro | rfl | assumption | omega | apply And.intro))
        clear g0 g13 g14 g15 g2 g3 g10 g11 g12 kq hc hj
        rintro ⟨env, ⟨sto, c⟩⟩ ⟨g0, g13, g14, g2, g3, g10, g11, g12, kq, hc, hj⟩
        simp only at g0 g13 g14 g2 g3 g10 g11 g12 kq hc hj
        have cuA := fun n key => cu1 ⟨sto, n⟩ hj key
        refine Za (fun x => x.env.get 0 = v ∧ x.env.get 13 = .i .i64 mo ∧ x.env.get 16 = .i .u64 (run : Int) ∧ x.env.get 17 = .i .i64 bh ∧ x.env.get 15 = .i .i64 e2 ∧ x.env.get 2 = .rsl q 5 0 L.length ∧ x.env.get 3 = .fn (putId k) [] ∧ x.env.get 10 = .i .i64 n ∧ x.env.get 11 = .i .i64 last ∧ x.env.get 12 = .i .i64 (P.length : Int) ∧ x.st.get q = some (.cells (evsC (sofar k L P)) false) ∧ c0 ≤ x.st.cnt ∧ ∀ j, j < c0 → j ≠ q → x.st.get j = St.get ⟨sto0, c0⟩ j) ?_ ?_
        · simp (disch := first | omega | rfl | assumption) only [↓Z0, ↓Xp, ↓Xt, Xq, Xc, binP, ofCells, Nat.reduceAdd, Nat.reduceMul, Nat.reduceLT, Nat.reduceEqDiff, reduceIte, Xm, Nat.reduceLeDiff, Xa, Xn, g0, g13, g14, g2, g3, g10, g11, g12, hlr, cuA]
          (repeat' (first | exact True.intro | rfl | assumption | omega | apply And.intro))
        clear g0 g13 g14 g2 g3 g10 g11 g12 kq hc hj
        rintro ⟨env, ⟨sto, c⟩⟩ ⟨g0, g13, g16, g17, g15, g2, g3, g10, g11, g12, kq, hc, hj⟩
        simp only at g0 g13 g16 g17 g15 g2 g3 g10 g11 g12 kq hc hj
        refine Za (fun x => x.env.get 0 = v ∧ x.env.get 13 = .i .i64 mo ∧ x.env.get 16 = .i .u64 (run : Int) ∧ x.env.get 17 = .i .i64 bh ∧ x.env.get 2 = .rsl q 5 0 L.length ∧ x.env.get 3 = .fn (putId k) [] ∧ x.env.get 10 = .i .i64 n ∧ x.env.get 12 = .i .i64 (P.length : Int) ∧ x.st.get q = some (.cells (evsC (sofar k L P)) false) ∧ c0 ≤ x.st.cnt ∧ ∀ j, j < c0 → j ≠ q → x.st.get j = St.get ⟨sto0, c0⟩ j) ?_ ?_
        · rcases Nat.eq_zero_or_pos P.length with h0 | h0
          · simp (disch := first | omega | rfl | assumption) only [↓Z0, ↓Xp, ↓Xt, Xq, Xc, binP, ofCells, Nat.reduceAdd, Nat.reduceMul, Nat.reduceLT, Nat.reduceEqDiff, reduceIte, Xm, Nat.reduceLeDiff, Xa, Xn, g0, g13, g16, g17, g15, g2, g3, g10, g11, g12, hlr, hws]
            (repeat' (first | exact True.intro | rfl | assumption | omega | apply And.intro))
          · have h4' : ¬ mo = last := fun h => h4 ⟨h0, h⟩
            simp (disch := first | omega | rfl | assumption) only [↓Z0, ↓Xp, ↓Xt, Xq, Xc, binP, ofCells, Nat.reduceAdd, Nat.reduceMul, Nat.reduceLT, Nat.reduceEqDiff, reduceIte, Xm, Nat.reduceLeDiff, Xa, Xn, g0, g13, g16, g17, g15, g2, g3, g10, g11, g12, hlr, hws]
            (repeat' (first | exact True.intro | rfl | assumption | omega | apply And.intro))
        clear g0 g13 g16 g17 g15 g2 g3 g10 g11 g12 kq hc hj
        rintro ⟨env, ⟨sto, c⟩⟩ ⟨g0, g13, g16, g17, g2, g3, g10, g12, kq, hc, hj⟩
        simp only at g0 g13 g16 g17 g2 g3 g10 g12 kq hc hj
        refine Za (fun x => x.env.get 0 = v ∧ x.env.get 13 = .i .i64 mo ∧ x.env.get 16 = .i .u64 (run : Int) ∧ x.env.get 1 = .i .i64 bh ∧ x.env.get 11 = .i .i64 mo ∧ x.env.get 2 = .rsl q 5 0 L.length ∧ x.env.get 3 = .fn (putId k) [] ∧ x.env.get 10 = .i .i64 n ∧ x.env.get 12 = .i .i64 (P.length : Int) ∧ x.st.get q = some (.cells (evsC (sofar k L P)) false) ∧ c0 ≤ x.st.cnt ∧ ∀ j, j < c0 → j ≠ q → x.st.get j = St.get ⟨sto0, c0⟩ j) ?_ ?_
        · simp (disch := first | omega | rfl | assumption) only [↓Z0, ↓Xp, ↓Xt, Xq, Xc, binP, ofCells, Nat.reduceAdd, Nat.reduceMul, Nat.reduceLT, Nat.reduceEqDiff, reduceIte, Xm, Nat.reduceLeDiff, Xa, Xn, g0, g13, g16, g17, g2, g3, g10, g12]
          (repeat' (first | exact True.intro | rfl | assumption | omega | apply And.intro))
        clear g0 g13 g16 g17 g2 g3 g10 g12 kq hc hj
        rintro ⟨env, ⟨sto, c⟩⟩ ⟨g0, g13, g16, g1, g11, g2, g3, g10, g12, kq, hc, hj⟩
        simp only at g0 g13 g16 g1 g11 g2 g3 g10 g12 kq hc hj
        have h3' : run ≤ L.length - P.length := by omega
        obtain ⟨RV, hRV⟩ : ∃ R, runV k run n mo = R := ⟨_, rfl⟩
        rw [hRV] at hR
        rw [Z0]
        simp (disch := first | omega | rfl | assumption) only [↓Xp, ↓Xt, Xq, Xc, binP, ofCells, Nat.reduceAdd, Nat.reduceMul, Nat.reduceLT, Nat.reduceEqDiff, reduceIte, Xa, Xn, g16]
        refine Z9 (k := run - 0) (fun d x => ∃ (r : Nat) (n' : Int) (S : List Int), r ≤ run ∧ d = run - r ∧ S.length = r ∧ comb2 S (runV k (run - r) n' mo) = RV ∧ x.env.get 0 = v ∧ x.env.get 13 = .i .i64 mo ∧ x.env.get 64 = .i .u64 (run : Int) ∧ x.env.get 65 = .i .u64 (r : Int) ∧ x.env.get 1 = .i .i64 bh ∧ x.env.get 11 = .i .i64 mo ∧ x.env.get 2 = .rsl q 5 0 L.length ∧ x.env.get 3 = .fn (putId k) [] ∧ x.env.get 10 = .i .i64 n' ∧ x.env.get 12 = .i .i64 ((P.length + r : Nat) : Int) ∧ x.st.get q = some (.cells (evsC (sofar k L (P ++ S))) false) ∧ c0 ≤ x.st.cnt ∧ ∀ j, j < c0 → j ≠ q → x.st.get j = St.get ⟨sto0, c0⟩ j) ?_ ?_ (by omega)
        · clear g0 g13 g16 g1 g11 g2 g3 g10 g12 kq hc hj
          rintro d ⟨env, ⟨sto, c⟩⟩ ⟨r, n', S, hr, rfl, hS, hRr, g0, g13, g64, g65, g1, g11, g2, g3, g10, g12, kq, hc, hj⟩
          simp only at g0 g13 g64 g65 g1 g11 g2 g3 g10 g12 kq hc hj
          by_cases hrl : r < run
          · have hPS : (P ++ S).length = P.length + r := by rw [List.length_append, hS]
            have hsl := sofar_len (k := k) (L := L) (P := P ++ S) (by omega)
            have hstep := sofar_step (k := k) (L := L) (P := P ++ S) (by omega) (IntKind.i64.wrap (n' + mo))
            rw [hPS] at hstep
            have hput := fun (st : St) (h : st.get q = some (.cells (evsC (sofar k L (P ++ S))) false)) => colput_ev (fuel := fuel) hfp hk5 (st := st) (q := q) (L := sofar k L (P ++ S)) h (i := P.length + r) (by omega) (IntKind.i64.wrap (n' + mo))
            have hrun : run - r = (run - (r + 1)) + 1 := by omega
            rw [hrun] at hRr
            unfold runV at hRr
            by_cases hco : colOK k (IntKind.i64.wrap (n' + mo)) = true
            · rw [if_pos hco] at hRr
              have hRr2 : comb2 (S ++ [IntKind.i64.wrap (n' + mo)]) (runV k (run - (r + 1)) (IntKind.i64.wrap (n' + mo)) mo) = RV := by
                rw [← hRr, ← comb2_two]; rfl
              simp (disch := first | omega | rfl | assumption) only [↓Z0, ↓Xp, ↓Xt, Xq, Xc, binP, ofCells, Nat.reduceAdd, Nat.reduceMul, Nat.reduceLT, Nat.reduceEqDiff, reduceIte, Xa, Xn, g0, g13, g64, g65, g1, g11, g2, g3, g10, g12, hlr, hxk, List.append_nil]
              refine Z0o_ (hput ⟨sto, c + 96⟩ kq) ?_
              rintro _ st1 ⟨rfl, q1, c1, f1⟩
              simp only at c1
              rw [hstep, List.append_assoc] at q1
              have hj1 : ∀ j, j < c0 → ¬ j = q → st1.get j = St.get ⟨sto0, c0⟩ j := fun j h1 h2 => by rw [f1 j h2]; exact hj j h1 h2
              rw [hco]
              simp (disch := first | omega | rfl | assumption) only [↓Z0, ↓Xp, ↓Xt, Xq, Xc, binP, ofCells, Nat.reduceAdd, Nat.reduceMul, Nat.reduceLT, Nat.reduceEqDiff, reduceIte, unP]
              refine ⟨run - (r + 1), by omega, r + 1, IntKind.i64.wrap (n' + mo), S ++ [IntKind.i64.wrap (n' + mo)], by omega, rfl, by rw [List.length_append, hS]; rfl, hRr2, rfl, rfl, rfl, q1, by omega, hj1⟩
            · rw [if_neg hco] at hRr
              have hRV2 : RV = none := by rw [← hRr]; rfl
              subst hRV2
              simp only at hR
              have hR0 : RES = none := by rw [← hR]; rfl
              subst hR0
              simp (disch := first | omega | rfl | assumption) only [↓Z0, ↓Xp, ↓Xt, Xq, Xc, binP, ofCells, Nat.reduceAdd, Nat.reduceMul, Nat.reduceLT, Nat.reduceEqDiff, reduceIte, Xa, Xn, g0, g13, g64, g65, g1, g11, g2, g3, g10, g12, hlr, hxk, List.append_nil]
              refine Z0o_ (hput ⟨sto, c + 96⟩ kq) ?_
              rintro _ st1 ⟨rfl, q1, c1, f1⟩
              simp only at c1
              have hj1 : ∀ j, j < c0 → ¬ j = q → st1.get j = St.get ⟨sto0, c0⟩ j := fun j h1 h2 => by rw [f1 j h2]; exact hj j h1 h2
              have hco' : colOK k (IntKind.i64.wrap (n' + mo)) = false := by simpa using hco
              rw [hco']
              simp (disch := first | omega | rfl | assumption) only [↓Z0, ↓Xp, ↓Xt, Xq, Xc, binP, ofCells, Nat.reduceAdd, Nat.reduceMul, Nat.reduceLT, Nat.reduceEqDiff, reduceIte, unP]
              refine ⟨nofun, _, rfl, by omega, hj1, ?_⟩
              simp only [tupV, ↓Z0, ↓Xp, ↓Xt, Xq, Xc, binP, ofCells, Nat.reduceAdd, Nat.reduceMul, Nat.reduceLT, Nat.reduceEqDiff, reduceIte]
              rfl
          · have hre : r = run := by omega
            subst hre
            rw [Nat.sub_self] at hRr
            have hRV2 : RV = some (S, n') := by rw [← hRr]; simp [runV, comb2]
            subst hRV2
            simp only at hR
            simp (disch := first | omega | rfl | assumption) only [↓Z0, ↓Xp, ↓Xt, Xq, Xc, binP, ofCells, Nat.reduceAdd, Nat.reduceMul, Nat.reduceLT, Nat.reduceEqDiff, reduceIte, Xa, Xn, g0, g13, g64, g65, g1, g11, g2, g3, g10, g12]
            have hPS : (P ++ S).length = P.length + r := by rw [List.length_append, hS]
            rw [comb2_two] at hR
            refine ⟨L.length - (P ++ S).length, by omega, f, n', mo, bh, P ++ S, by omega, rfl, by omega, ?_, rfl, rfl, rfl, by rw [hPS], kq, hj⟩
            rw [hPS, show L.length - (P.length + r) = L.length - P.length - r by omega, show (P.length + r == 0) = false from beq_eq_false_iff_ne.2 (by omega)]
            exact hR
        · refine ⟨0, n, [], by omega, rfl, rfl, ?_, ?_⟩
          · rw [comb2_nil]; exact hRV
          · simp (disch := first | omega | rfl | assumption) only [↓Z0, ↓Xp, ↓Xt, Xq, Xc, binP, ofCells, Nat.reduceAdd, Nat.reduceMul, Nat.reduceLT, Nat.reduceEqDiff, reduceIte, Xa, Xn, g0, g13, g16, g1, g11, g2, g3, g10, g12, List.append_nil, Nat.add_zero]
            (repeat' (first | exact True.intro | rfl | assumption | omega | apply And.intro))
      · have hPl : P.length = L.length := by omega
        simp (disch := first | omega | rfl | assumption) only [↓Z0, ↓Xp, ↓Xt, Xq, Xc, binP, ofCells, Nat.reduceAdd, Nat.reduceMul, Nat.reduceLT, Nat.reduceEqDiff, reduceIte, Xa, Xn, g0, g1, g2, g3, g10, g11, g12, hlr]
        have hR2 : RES = some (P, a) := by
          rw [← hR, hPl, Nat.sub_self]
          cases f <;> simp [colV, comb2]
        rw [sofar_all hPl] at kq
        refine ⟨P, a, ?_⟩
        (repeat' (first | exact True.intro | rfl | assumption | omega | apply And.intro))
    · refine ⟨L.length, 0, 0, at0, [], by simp, by simp, by simp, ?_, ?_⟩
      · rw [comb2_nil]; exact hRES
      · simp (disch := first | omega | rfl | assumption) only [↓Z0, ↓Xp, ↓Xt, Xq, Xc, binP, ofCells, Nat.reduceAdd, Nat.reduceMul, Nat.reduceLT, Nat.reduceEqDiff, reduceIte, Xa, Xn, g0, g1, g2, g3, g10, g11, sofar_nil]
        have hq2 : St.get ⟨sto, c⟩ q = some (.cells (evsC L) false) := by rw [hj q hqc]; exact hq
        have hj2 : ∀ j, j < c0 → ¬ j = q → St.get ⟨sto, c⟩ j = St.get ⟨sto0, c0⟩ j := fun j h _ => hj j h
        (repeat' (first | exact True.intro | rfl | assumption | omega | apply And.intro))
  clear g0 g1 g2 g3 g10 g11 hc hj
  rintro ⟨env, ⟨sto, c⟩⟩ ⟨vs, a, rfl, hvl, g1, kq, hc, hj⟩
  simp only at g1 kq hc hj
  simp (disch := first | omega | rfl | assumption) only [↓Z0, ↓Xp, ↓Xt, Xq, Xc, binP, ofCells, Nat.reduceAdd, Nat.reduceMul, Nat.reduceLT, Nat.reduceEqDiff, reduceIte, Xa, Xn, g1]
  refine ⟨nofun, _, rfl, ?_⟩
  simp only [tupV, ↓Z0, ↓Xp, ↓Xt, Xq, Xc, binP, ofCells, Nat.reduceAdd, Nat.reduceMul, Nat.reduceLT, Nat.reduceEqDiff, reduceIte]
  (repeat' (first | exact True.intro | rfl | assumption | omega | apply And.intro))
end Go.Pe
