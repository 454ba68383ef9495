/-
  The document's answer for layer 3: an event laid out, by the interpreter of plain data. No condition.
-/
import Derived.Test.YtadblicfhhllgaaRefC
import Derived.Test.YtadblicfhhllgaaEvtAs
import Derived.Test.YtadblicfhhllgaaPe7
import Derived.Test.YtadblicfhhllgaaEvtI
set_option linter.unusedVariables false
set_option linter.unusedSimpArgs false
namespace Go.Pe
open Go Go.Am Go.RowKit

theorem load_i64 {st : St} {k : Nat} {fz : Bool} {xs : List Int} (hk : st.get k = some (.cells (i64C xs) fz)) {i : Nat} (hi : i < xs.length) : loadP st 1 (.ptr k (0 + i * 1)) = some [.i .i64 (xs.getD i 0)] := by
  have h1 : (i64C xs).length = xs.length := by simp [i64C]
  have h2 : (i64C xs).drop i = .i .i64 (xs.getD i 0) :: (i64C xs).drop (i + 1) := by
    rw [List.drop_eq_getElem_cons (by rw [h1]; exact hi)]
    simp [i64C, List.getD_eq_getElem?_getD, hi]
  unfold loadP
  simp only [hk, Nat.zero_add, Nat.mul_one, cut?, h1, h2]
  rw [if_pos (by omega)]
  rfl
theorem store_i64 {st : St} {k : Nat} {xs : List Int} (hk : st.get k = some (.cells (i64C xs) false)) {i : Nat} (hi : i < xs.length) (n : Int) : storeP st 1 (.ptr k (0 + i * 1)) (.i .i64 n) = some (st.put k (some (.cells (i64C (xs.set i n)) false))) := by
  have h1 : (i64C xs).length = xs.length := by simp [i64C]
  have h2 : (i64C xs).take i ++ [.i .i64 n] ++ (i64C xs).drop (i + 1) = i64C (xs.set i n) := by
    rw [List.set_eq_take_append_cons_drop, if_pos hi]
    simp [i64C]
  unfold storeP
  simp only [hk, Nat.zero_add, Nat.mul_one, Z0O_, h1]
  rw [if_pos ⟨rfl, by omega, rfl⟩, h2]
def fourL (e : Ev) : List Int := [e.T, e.J, e.A, e.B]
def dIntsL : List Int → List Int → List UInt8
  | a :: r, b :: s => dInt a b ++ dIntsL r s
  | _, _ => []
theorem pt_four (x e : Ev) : pt x e = e.O :: dIntsL (fourL x) (fourL e) := by
  unfold pt fourL
  simp only [dIntsL, List.append_nil]
def gFour : List PV → Option PV
  | [.agg [.i .i64 t, .i .u8 o, .i .i64 j, .i .i64 a, .i .i64 b]] => some (.agg [.i .i64 t, .i .i64 j, .i .i64 a, .i .i64 b])
  | _ => none
set_option maxHeartbeats 4000000 in
theorem four_any (args : List PV) (r : PV) (h : gFour args = some r) : ∃ fuel, evP cfgE0 fuel 30 args = some r := by
  unfold gFour at h
  split at h
  · rename_i t o j a b
    simp only [Option.some.injEq] at h
    subst h
    refine ⟨0 + 1, evP_of rfl rfl (evFn_W (by kernel_rfl : cfgE0.fn 30 = some m30) ?_)⟩
    unfold m30
    simp only [putArgs, ↓Z0, ↓Xp, ↓Xt, Xq, Xc, binP, ofCells, Nat.reduceAdd, Nat.reduceMul, Nat.reduceLT, Nat.reduceEqDiff, reduceIte, Xm, Nat.reduceLeDiff]
    refine ⟨nofun, [.agg [.i .i64 t, .i .i64 j, .i .i64 a, .i .i64 b]], ?_, rfl⟩
    simp only [mapO, resP, ↓Z0, ↓Xp, ↓Xt, Xq, Xc, binP, ofCells, Nat.reduceAdd, Nat.reduceMul, Nat.reduceLT, Nat.reduceEqDiff, reduceIte, Xm, Nat.reduceLeDiff]
  · simp at h
def extR6 : FuncId → Option (List PV → Option PV) := fun f => if f = 30 then some gFour else if f = 31 then some gRInt else if f = 40 then some gRGetI else none
noncomputable def cfgR6 : Cfg := { fn := fun f => lookT f tblL, ext := extR6 }
theorem cfgR6_ok {Gl : Gmap} : CfgOK Go.Proofs.Try.prog Gl cfgR6 := by
  refine cfg_okt tbl_all ?_
  intro f g h
  unfold extR6 at h
  split at h
  · rename_i e; simp only [Option.some.injEq] at h; subst h; subst e
    exact pure_of cfgR0_ok four_any
  split at h
  · rename_i e; simp only [Option.some.injEq] at h; subst h; subst e
    exact pure_of cfgR2_ok rint_any
  split at h
  · rename_i e; simp only [Option.some.injEq] at h; subst h; subst e
    exact pure_of cfgR5_ok rgeti_any
  · simp at h
theorem wrap_sub (a b : Int) : IntKind.i64.wrap (IntKind.u64.wrap (IntKind.u64.wrap b - IntKind.u64.wrap a)) = IntKind.i64.wrap (b - a) := by
  rw [IntKind.wrap_u64, IntKind.wrap_u64, IntKind.wrap_u64, IntKind.wrap_i64, IntKind.wrap_i64]
  omega
theorem wrap_add (a b : Int) : IntKind.i64.wrap (IntKind.u64.wrap (IntKind.u64.wrap a + IntKind.u64.wrap b)) = IntKind.i64.wrap (a + b) := by
  rw [IntKind.wrap_u64, IntKind.wrap_u64, IntKind.wrap_u64, IntKind.wrap_i64, IntKind.wrap_i64]
  omega
set_option maxHeartbeats 8000000 in
set_option maxRecDepth 100000 in
theorem rput_ev {cfg : Cfg} (hf : cfg.fn 13 = some m13) (hx1 : cfg.ext 30 = some gFour) (hx2 : cfg.ext 31 = some gRInt) {v : PV} {l : List UInt8} (hv : inL v = some l) (hl : l.length + 60 ≤ 140737488355328) {X E : Ev} {fuel : Nat} (hfu : 6 ≤ fuel) :
    ∃ r st', evFn cfg (fuel + 1) 13 [v, .agg (evC X), .agg (evC E)] { sto := .leaf, cnt := 1 } = some (r, st') ∧ ∃ q, r = .rsl q 1 0 (l ++ pt X E).length ∧ st'.get q = some (.cells (ofBytes (l ++ pt X E)) false) := by
  refine evFn_W hf ?_
  unfold m13
  have hcl := fun st => cells_in (st := st) hv
  have ol := one_ofBytes l
  have hmb : maxBytes = 140737488355328 := rfl
  have hX1 : (PV.agg (evC X)).cells.all PV.one = true := rfl
  have hE1 : (PV.agg (evC E)).cells.all PV.one = true := rfl
  refine Za (fun x => x.env.get 0 = v ∧ x.env.get 4 = .ptr 1 0 ∧ x.env.get 5 = .ptr 9 0 ∧ x.st.get 1 = some (.cells (evC X) false) ∧ x.st.get 9 = some (.cells (evC E) false) ∧ x.st.cnt = 25) ?_ ?_
  · simp only [↓Z0, ↓Xp, ↓Xt, Xq, Xc, binP, ofCells, Nat.reduceAdd, Nat.reduceMul, Nat.reduceLT, Nat.reduceEqDiff, reduceIte, Xm, Nat.reduceLeDiff, putArgs, hX1, hE1]
    (repeat' (first | exact True.intro | rfl | assumption | omega | apply And.intro | exact St.get_putk _ _ _ | refine ⟨_, rfl, ?_⟩))
  rintro ⟨env, ⟨sto, c⟩⟩ ⟨g0, g4, g5, k1, k9, hc⟩
  simp only at g0 g4 g5 k1 k9 hc
  replace k1 : ∀ n, St.get ⟨sto, n⟩ 1 = some (.cells (evC X) false) := fun _ => k1
  replace k9 : ∀ n, St.get ⟨sto, n⟩ 9 = some (.cells (evC E) false) := fun _ => k9
  subst hc
  refine Za (fun x => x.env.get 0 = v ∧ x.env.get 4 = .ptr 1 0 ∧ x.env.get 5 = .ptr 9 0 ∧ x.st.get 1 = some (.cells (evC X) false) ∧ x.st.get 9 = some (.cells (evC E) false) ∧ x.st.cnt = 33 ∧ x.env.get 7 = .nsl) ?_ ?_
  · simp only [↓Z0, ↓Xp, ↓Xt, Xq, Xc, binP, ofCells, Nat.reduceAdd, Nat.reduceMul, Nat.reduceLT, Nat.reduceEqDiff, reduceIte, Xm, Nat.reduceLeDiff, g0, g4, g5, k1, k9]
    (repeat' (first | exact True.intro | rfl | assumption | omega | apply And.intro | exact St.get_putk _ _ _ | refine ⟨_, rfl, ?_⟩))
  clear g0 g4 g5 k1 k9
  rintro ⟨env, ⟨sto, c⟩⟩ ⟨g0, g4, g5, k1, k9, hc, g7⟩
  simp only at g0 g4 g5 k1 k9 hc g7
  replace k1 : ∀ n, St.get ⟨sto, n⟩ 1 = some (.cells (evC X) false) := fun _ => k1
  replace k9 : ∀ n, St.get ⟨sto, n⟩ 9 = some (.cells (evC E) false) := fun _ => k9
  subst hc
  have hmx : l.length ≤ maxBytes := by unfold maxBytes; omega
  refine Za (fun x => ∃ v7, x.env.get 7 = v7 ∧ x.env.get 4 = .ptr 1 0 ∧ x.env.get 5 = .ptr 9 0 ∧ x.st.get 1 = some (.cells (evC X) false) ∧ x.st.get 9 = some (.cells (evC E) false) ∧ x.st.cnt = 65 ∧ Own x.st 1 v7 l.length (ofBytes l) ∧ ∀ k, k ∈ keyOf v7 → 9 < k) ?_ ?_
  · simp only [↓Z0, ↓Xp, ↓Xt, Xq, Xc, binP, ofCells, Nat.reduceAdd, Nat.reduceMul, Nat.reduceLT, Nat.reduceEqDiff, reduceIte, Xm, Nat.reduceLeDiff, g0, g4, g5, k1, k9, g7, hcl, ol]
    refine WV_appO (Own.nil _ _) (show 49 < 65 by decide) (by simp [keyOf]) (by rw [len_ofBytes, Nat.mul_one]) (by decide) (by omega) ?_
    intro v' st' ho hc hk hg
    rw [Nat.zero_add] at ho
    refine ⟨v', rfl, ?_, ?_, hc, ho, fun k h => by rw [hk k h]; decide⟩
    · rw [hg 1 (by decide) (by simp [keyOf])]; exact k1 _
    · rw [hg 9 (by decide) (by simp [keyOf])]; exact k9 _
  clear g0 g4 g5 k1 k9 g7
  rintro ⟨env, ⟨sto, c⟩⟩ ⟨v7, g7, g4, g5, k1, k9, hc, o7, b7⟩
  simp only at g7 g4 g5 k1 k9 hc
  replace k1 : ∀ n, St.get ⟨sto, n⟩ 1 = some (.cells (evC X) false) := fun _ => k1
  replace k9 : ∀ n, St.get ⟨sto, n⟩ 9 = some (.cells (evC E) false) := fun _ => k9
  subst hc
  have hld1 : ∀ n, loadP ⟨sto, n⟩ 1 (.ptr 9 1) = some [.i .u8 (E.O.toNat : Int)] := by
    intro n
    unfold loadP
    simp only [k9 n]
    rfl
  refine Za (fun x => ∃ v7, x.env.get 7 = v7 ∧ x.env.get 4 = .ptr 1 0 ∧ x.env.get 5 = .ptr 9 0 ∧ x.st.get 1 = some (.cells (evC X) false) ∧ x.st.get 9 = some (.cells (evC E) false) ∧ x.st.cnt = 113 ∧ Own x.st 1 v7 (l ++ [E.O]).length (ofBytes (l ++ [E.O])) ∧ ∀ k, k ∈ keyOf v7 → 9 < k) ?_ ?_
  · simp (disch := first | omega | rfl | assumption) only [↓Z0, ↓Xp, ↓Xt, Xq, Xc, binP, ofCells, Nat.reduceAdd, Nat.reduceMul, Nat.reduceLT, Nat.reduceEqDiff, reduceIte, Xm, Nat.reduceLeDiff, Xa, Xn, evC, g7, g4, g5, k1, k9, cells_putL]
    refine WV_appO (o7.move ?_ ?_) (show 97 < 113 by decide) (fun h => ?_) (m := 1) rfl (by decide) (by omega) ?_
    · show 65 ≤ 113; decide
    · intro j hj hc
      simp only at hc
      simp (disch := first | omega | rfl | assumption) only [Z0I_]; rfl
    · exact absurd (o7.lt _ h) (by show ¬ 97 < 65; decide)
    intro v' st' ho hc hk hg
    refine ⟨v', rfl, ?_, ?_, hc, ?_, fun k h => by rw [hk k h]; decide⟩
    · rw [hg 1 (by decide) (fun h => absurd (b7 _ h) (by decide)), Z0I_ _ _ _ _ (by decide), k1]; rfl
    · rw [hg 9 (by decide) (fun h => absurd (b7 _ h) (by decide)), Z0I_ _ _ _ _ (by decide), k9]; rfl
    · rw [ofBytes_one, append_ofBytes] at ho
      rw [List.length_append]; exact ho
  clear g7 g4 g5 k1 k9
  rintro ⟨env, ⟨sto, c⟩⟩ ⟨v7, g7, g4, g5, k1, k9, hc, o7, b7⟩
  simp only at g7 g4 g5 k1 k9 hc
  replace k1 : ∀ n, St.get ⟨sto, n⟩ 1 = some (.cells (evC X) false) := fun _ => k1
  replace k9 : ∀ n, St.get ⟨sto, n⟩ 9 = some (.cells (evC E) false) := fun _ => k9
  subst hc
  have hq4 : ∀ Z : Ev, runPure cfg (evFn cfg fuel) 30 [.agg (evC Z)] = some (.agg (i64C (fourL Z))) := by
    intro Z
    rw [runPure_ext hx1]
    rfl
  have hd4 : ∀ (st : St) (Z : Ev), deepL st [.agg (evC Z)] = some [.agg (evC Z)] := fun _ _ => rfl
  have hz4 : ∀ Z : Ev, (PV.agg (i64C (fourL Z))).closedB = true := fun _ => rfl
  have hr4 : ∀ st key (Z : Ev), recvRes st key (PV.agg (i64C (fourL Z))) = some (PV.agg (i64C (fourL Z)), st) := fun _ _ _ => rfl
  have hc4 : ∀ Z : Ev, (PV.agg (i64C (fourL Z))).cells.length = 4 := fun _ => rfl
  obtain ⟨L, hL⟩ : ∃ L, l ++ [E.O] = L := ⟨_, rfl⟩
  have hLl : L.length = l.length + 1 := by rw [← hL]; simp
  rw [hL] at o7
  refine Za (fun x => ∃ v7, x.env.get 7 = v7 ∧ x.env.get 8 = .ptr 145 0 ∧ x.env.get 9 = .ptr 153 0 ∧ x.st.get 145 = some (.cells (i64C (fourL X)) false) ∧ x.st.get 153 = some (.cells (i64C (fourL E)) false) ∧ x.st.cnt = 177 ∧ Own x.st 1 v7 L.length (ofBytes L) ∧ ∀ k, k ∈ keyOf v7 → k < 145) ?_ ?_
  · have hl5 : ∀ n, loadP ⟨sto, n⟩ 5 (.ptr 1 0) = some (evC X) := by
      intro n; unfold loadP; simp only [k1 n]; rfl
    have hl9 : ∀ n, loadP ⟨sto, n⟩ 5 (.ptr 9 0) = some (evC E) := by
      intro n; unfold loadP; simp only [k9 n]; rfl
    have hof : ∀ Z, ofCells true (evC Z) = some (.agg (evC Z)) := fun _ => rfl
    have hi4 : ∀ Z, i64C (fourL Z) = [.i .i64 Z.T, .i .i64 Z.J, .i .i64 Z.A, .i .i64 Z.B] := fun _ => rfl
    simp (disch := first | omega | rfl | assumption) only [↓Z0, ↓Xp, ↓Xt, Xq, Xc, binP, ofCells, Nat.reduceAdd, Nat.reduceMul, Nat.reduceLT, Nat.reduceEqDiff, reduceIte, g7, g4, g5, k1, k9, hl5, hl9, hof, hd4, hq4, hz4, hr4]
    simp (disch := first | omega | rfl | assumption) only [↓Z0, ↓Xp, ↓Xt, Xq, Xc, binP, ofCells, Nat.reduceAdd, Nat.reduceMul, Nat.reduceLT, Nat.reduceEqDiff, reduceIte, Xm, Nat.reduceLeDiff, hi4]
    refine ⟨v7, rfl, ?_, ?_⟩
    · exact o7.move (by show 113 ≤ 177; decide) fun j hj hc => by
        simp only at hc
        simp (disch := first | omega | rfl | assumption) only [Z0I_, Xm, Nat.reduceLeDiff]; rfl
    · intro k hk; have : k < 113 := o7.lt _ hk; omega
  clear g7 g4 g5 k1 k9
  rintro ⟨env, ⟨sto, c⟩⟩ ⟨v7, g7, g8, g9, k145, k153, hc, o7, b7⟩
  simp only at g7 g8 g9 k145 k153 hc
  replace k145 : ∀ n, St.get ⟨sto, n⟩ 145 = some (.cells (i64C (fourL X)) false) := fun _ => k145
  replace k153 : ∀ n, St.get ⟨sto, n⟩ 153 = some (.cells (i64C (fourL E)) false) := fun _ => k153
  subst hc
  have hdr : pt X E = E.O :: dIntsL (fourL X) (fourL E) := pt_four X E
  have hX4 : (fourL X).length = 4 := rfl
  have hE4 : (fourL E).length = 4 := rfl
  have hgoal : l ++ pt X E = L ++ dIntsL (fourL X) (fourL E) := by rw [hdr, ← hL]; simp
  rw [hgoal]
  clear hgoal hdr hL hq4 hd4 hz4 hr4 hc4 hcl ol hX1 hE1
  obtain ⟨A, hA⟩ : ∃ A, fourL X = A := ⟨_, rfl⟩
  obtain ⟨B, hB⟩ : ∃ B, fourL E = B := ⟨_, rfl⟩
  simp only [hA, hB] at k145 k153 hX4 hE4 ⊢
  clear hA hB
  refine Za (fun x => ∃ v7, x.env.get 7 = v7 ∧ Own x.st 1 v7 (L ++ dIntsL A B).length (ofBytes (L ++ dIntsL A B))) ?_ ?_
  · rw [Z0]
    simp only [↓Xp, ↓Xt, Xq, Xc, binP, ofCells, Nat.reduceAdd, Nat.reduceMul, Nat.reduceLT, Nat.reduceEqDiff, reduceIte, g7, g8, g9, k145, k153]
    refine Z9 (k := 4 - 0) (fun d x => ∃ (i : Nat) (v7 : PV) (M : List UInt8), i ≤ 4 ∧ d = 4 - i ∧ M ++ dIntsL (A.drop i) (B.drop i) = L ++ dIntsL A B ∧ M.length ≤ L.length + 10 * i ∧ x.env.get 7 = v7 ∧ x.env.get 8 = .ptr 145 0 ∧ x.env.get 9 = .ptr 153 0 ∧ x.env.get 10 = .i .i64 (i : Int) ∧ x.st.get 145 = some (.cells (i64C A) false) ∧ x.st.get 153 = some (.cells (i64C B) false) ∧ 177 ≤ x.st.cnt ∧ Own x.st 1 v7 M.length (ofBytes M) ∧ ∀ k, k ∈ keyOf v7 → k ≠ 145 ∧ k ≠ 153) ?_ ?_ (by omega)
    · skip
      clear g7 g8 g9 k145 k153
      rintro d ⟨env, ⟨sto, c⟩⟩ ⟨i, v7, M, hi, rfl, hM, hMl, g7, g8, g9, g10, k145, k153, hc, o7, b7⟩
      simp only at g7 g8 g9 g10 k145 k153
      replace k145 : ∀ n, St.get ⟨sto, n⟩ 145 = some (.cells (i64C A) false) := fun _ => k145
      replace k153 : ∀ n, St.get ⟨sto, n⟩ 153 = some (.cells (i64C B) false) := fun _ => k153
      simp only at hc
      by_cases h4 : i < 4
      · have hA4 := fun n => load_i64 (k145 n) (show i < A.length by omega)
        have hB4 := fun n => load_i64 (k153 n) (show i < B.length by omega)
        simp only [Nat.zero_add, Nat.mul_one] at hA4 hB4
        simp (disch := first | omega | rfl | assumption) only [↓Z0, ↓Xp, ↓Xt, Xq, Xc, binP, ofCells, Nat.reduceAdd, Nat.reduceMul, Nat.reduceLT, Nat.reduceEqDiff, reduceIte, Xa, Xn, g7, g8, g9, g10, k145, k153, hA4, hB4, wrap_sub]
        obtain ⟨w, hw, hwi⟩ := (show Own ⟨sto, c + 120⟩ 1 v7 M.length (ofBytes M) from o7.cnt (by omega)).deepB
        have hwr : ∀ x : Int, -9223372036854775808 ≤ IntKind.i64.wrap x ∧ IntKind.i64.wrap x < 9223372036854775808 := fun x => by
          rw [IntKind.wrap_i64]; omega
        refine WV_callqL (sz := 1) (n := (M ++ dInt (A.getD i 0) (B.getD i 0)).length) (cs := ofBytes (M ++ dInt (A.getD i 0) (B.getD i 0))) (deep_2 hw (deep_i _ _ _)) ?_ (closed_osl _ _) (by rw [len_ofBytes, Nat.mul_one]) (by show c + 104 < c + 120; omega) ?_
        · rw [runPure_ext hx2]
          unfold gRInt
          simp only [hwi]
          have := hwr (B.getD i 0 - A.getD i 0)
          rw [if_pos ⟨this.1, this.2, by omega⟩]
          rfl
        intro st' ho hk hc' hg
        simp only at hc'
        have hdl := dInt_len (A.getD i 0) (B.getD i 0)
        refine ⟨4 - (i + 1), by omega, i + 1, _, M ++ dInt (A.getD i 0) (B.getD i 0), by omega, rfl, ?_, ?_, rfl, rfl, ?_, ?_, by omega, ?_, ?_⟩
        · rw [← hM]
          have eA : A.drop i = A.getD i 0 :: A.drop (i + 1) := by
            rw [List.drop_eq_getElem_cons (by omega)]; simp [List.getD_eq_getElem?_getD, show i < A.length by omega]
          have eB : B.drop i = B.getD i 0 :: B.drop (i + 1) := by
            rw [List.drop_eq_getElem_cons (by omega)]; simp [List.getD_eq_getElem?_getD, show i < B.length by omega]
          rw [eA, eB]
          simp only [dIntsL, List.append_assoc]
        · rw [List.length_append]; omega
        · rw [Z0J_, hg _ (by omega)]; exact k145 _
        · rw [Z0J_, hg _ (by omega)]; exact k153 _
        · exact ho.move (by simp only; omega) fun _ _ _ => rfl
        · intro k hk; rw [keyOf_rsl, List.mem_singleton] at hk; omega
      · have hi' : i = 4 := by omega
        subst hi'
        simp (disch := first | omega | rfl | assumption) only [↓Z0, ↓Xp, ↓Xt, Xq, Xc, binP, ofCells, Nat.reduceAdd, Nat.reduceMul, Nat.reduceLT, Nat.reduceEqDiff, reduceIte, Xa, Xn, g7, g8, g9, g10, k145, k153]
        refine ⟨v7, rfl, ?_⟩
        rw [← hM, List.drop_eq_nil_of_le (by omega), List.drop_eq_nil_of_le (by omega)]
        simp only [dIntsL, List.append_nil]
        exact o7.cnt (by omega)
    · refine ⟨0, v7, L, by omega, rfl, rfl, by omega, ?_⟩
      simp (disch := first | omega | rfl | assumption) only [↓Z0, ↓Xp, ↓Xt, Xq, Xc, binP, ofCells, Nat.reduceAdd, Nat.reduceMul, Nat.reduceLT, Nat.reduceEqDiff, reduceIte, g7, g8, g9, k145, k153, ofNat_c]
      refine ⟨by decide, o7.cnt (by omega), fun k hk => ?_⟩
      have := b7 k hk
      omega
  clear g7 g8 g9 k145 k153
  rintro ⟨env, ⟨sto, c⟩⟩ ⟨v7, g7, o7⟩
  simp only at g7
  simp (disch := first | omega | rfl | assumption) only [↓Z0, ↓Xp, ↓Xt, Xq, Xc, binP, ofCells, Nat.reduceAdd, Nat.reduceMul, Nat.reduceLT, Nat.reduceEqDiff, reduceIte, g7]
  refine ⟨nofun, _, rfl, ?_⟩
  simp only [tupV, ↓Z0, ↓Xp, ↓Xt, Xq, Xc, binP, ofCells, Nat.reduceAdd, Nat.reduceMul, Nat.reduceLT, Nat.reduceEqDiff, reduceIte]
  obtain ⟨k, rfl, hk, _⟩ := o7.obj (by rw [List.length_append]; omega)
  exact ⟨k, rfl, hk⟩
def gRPut : List PV → Option PV
  | [v, .agg [.i .i64 a0, .i .u8 a1, .i .i64 a2, .i .i64 a3, .i .i64 a4], .agg [.i .i64 b0, .i .u8 b1, .i .i64 b2, .i .i64 b3, .i .i64 b4]] => match inL v with
    | some l => if 0 ≤ a1 ∧ a1 < 256 ∧ 0 ≤ b1 ∧ b1 < 256 ∧ l.length + 60 ≤ 140737488355328 then some (.osl 1 (l ++ pt ⟨a0, a1.toNat.toUInt8, a2, a3, a4⟩ ⟨b0, b1.toNat.toUInt8, b2, b3, b4⟩).length (ofBytes (l ++ pt ⟨a0, a1.toNat.toUInt8, a2, a3, a4⟩ ⟨b0, b1.toNat.toUInt8, b2, b3, b4⟩))) else none
    | none => none
  | _ => none
theorem u8_back {b : Int} (h : 0 ≤ b ∧ b < 256) : (((b.toNat.toUInt8).toNat : Nat) : Int) = b := by
  rw [Nat.toUInt8, UInt8.toNat_ofNat']; omega
theorem rput_any (args : List PV) (r : PV) (h : gRPut args = some r) : ∃ fuel, evP cfgR6 fuel 13 args = some r := by
  unfold gRPut at h
  split at h
  · rename_i v a0 a1 a2 a3 a4 b0 b1 b2 b3 b4
    split at h
    · rename_i l hl
      split at h
      · rename_i hc
        simp only [Option.some.injEq] at h
        subst h
        have ha := u8_back ⟨hc.1, hc.2.1⟩
        have hb := u8_back ⟨hc.2.2.1, hc.2.2.2.1⟩
        obtain ⟨r, st', h1, q, h2, h3⟩ := rput_ev (cfg := cfgR6) (by kernel_rfl) (by kernel_rfl) (by kernel_rfl) hl hc.2.2.2.2 (X := ⟨a0, a1.toNat.toUInt8, a2, a3, a4⟩) (E := ⟨b0, b1.toNat.toUInt8, b2, b3, b4⟩) (fuel := 6) (Nat.le_refl _)
        refine ⟨6 + 1, evP_own (by kernel_rfl) ?_⟩
        rw [open_in hl]
        unfold evC at h1
        simp only [ha, hb] at h1
        exact ⟨r, st', h1, by rw [h2]; exact close_bytes h3⟩
      · simp at h
    · simp at h
  · simp at h
def getsL (l : List UInt8) : List Int → Int → Sum (List Int × Int) Int
  | [], a => .inl ([], a)
  | x :: r, a => if (getI l a).2.2 = 0 then (match getsL l r (getI l a).2.1 with | .inl (ys, b) => .inl (IntKind.i64.wrap (x + (getI l a).1) :: ys, b) | .inr e => .inr e) else .inr (getI l a).2.2
def combL (P : List Int) : Sum (List Int × Int) Int → Sum (List Int × Int) Int
  | .inl (ys, b) => .inl (P ++ ys, b)
  | .inr e => .inr e
theorem combL_nil (s : Sum (List Int × Int) Int) : combL [] s = s := by
  cases s <;> rfl
theorem gets_ok {l : List UInt8} {x a : Int} {r P : List Int} (h : (getI l a).2.2 = 0) : combL P (getsL l (x :: r) a) = combL (P ++ [IntKind.i64.wrap (x + (getI l a).1)]) (getsL l r (getI l a).2.1) := by
  show combL P (if _ then _ else _) = _
  rw [if_pos h]
  cases getsL l r (getI l a).2.1 with
  | inl p => simp [combL]
  | inr e => rfl
theorem gets_no {l : List UInt8} {x a : Int} {r P : List Int} (h : (getI l a).2.2 ≠ 0) : combL P (getsL l (x :: r) a) = .inr (getI l a).2.2 := by
  show combL P (if _ then _ else _) = _
  rw [if_neg h]
  rfl
def getP (l : List UInt8) (a : Int) : Sum (List Int × Int) Int → Ev × Int × Int
  | .inl ([t, j, x, y], b) => (⟨t, l.getD a.toNat 0, j, x, y⟩, b, 0)
  | .inl _ => (.zero, 0, 0)
  | .inr e => (.zero, 0, e)
theorem getE_gets {l : List UInt8} {a : Int} {X : Ev} (h1 : 0 ≤ a) (h2 : a < l.length) : getE l a X = getP l a (getsL l (fourL X) (a + 1)) := by
  unfold getE fourL
  rw [if_neg (by omega), if_neg (by omega)]
  simp only [getsL, getSt, if_true]
  by_cases e1 : (getI l (a + 1)).2.2 = 0
  · simp only [e1, if_true]
    by_cases e2 : (getI l (getI l (a + 1)).2.1).2.2 = 0
    · simp only [e2, if_true]
      by_cases e3 : (getI l (getI l (getI l (a + 1)).2.1).2.1).2.2 = 0
      · simp only [e3, if_true]
        by_cases e4 : (getI l (getI l (getI l (getI l (a + 1)).2.1).2.1).2.1).2.2 = 0
        · simp only [e4, if_true]; rfl
        · simp only [e4, if_false]; rfl
      · simp only [e3, if_false]; rfl
    · simp only [e2, if_false]; rfl
  · simp only [e1, if_false]; rfl
set_option maxHeartbeats 8000000 in
set_option maxRecDepth 100000 in
theorem rget_ev {cfg : Cfg} (hf : cfg.fn 20 = some m20) (hx1 : cfg.ext 30 = some gFour) (hx2 : cfg.ext 40 = some gRGetI) {v : PV} {l : List UInt8} (hv : inL v = some l) (hl : l.length ≤ 140737488355327) {a : Int} {X : Ev} {fuel : Nat} (hfu : 6 ≤ fuel) :
    ∃ r st', evFn cfg (fuel + 1) 20 [v, .i .i64 a, .agg (evC X)] { sto := .leaf, cnt := 1 } = some (r, st') ∧ r = getET (getE l a X) := by
  refine evFn_W hf ?_
  unfold m20
  have hlv := in_len hv
  have hX1 : (PV.agg (evC X)).cells.all PV.one = true := rfl
  have hz : evC .zero = [.i .i64 (Int.ofNat 0), .i .u8 (Int.ofNat 0), .i .i64 (Int.ofNat 0), .i .i64 (Int.ofNat 0), .i .i64 (Int.ofNat 0)] := rfl
  refine Za (fun x => x.env.get 0 = v ∧ x.env.get 1 = .i .i64 a ∧ x.env.get 5 = .ptr 1 0 ∧ x.env.get 6 = .ptr 9 0 ∧ x.st.get 1 = some (.cells (evC X) false) ∧ x.st.get 9 = some (.cells (evC .zero) false) ∧ x.st.cnt = 33) ?_ ?_
  · simp only [↓Z0, ↓Xp, ↓Xt, Xq, Xc, binP, ofCells, Nat.reduceAdd, Nat.reduceMul, Nat.reduceLT, Nat.reduceEqDiff, reduceIte, Xm, Nat.reduceLeDiff, putArgs, hX1]
    (repeat' (first | exact True.intro | rfl | assumption | omega | apply And.intro | exact St.get_putk _ _ _ | refine ⟨_, rfl, ?_⟩))
  rintro ⟨env, ⟨sto, c⟩⟩ ⟨g0, g1, g5, g6, k1, k9, hc⟩
  simp only at g0 g1 g5 g6 k1 k9 hc
  replace k1 : ∀ n, St.get ⟨sto, n⟩ 1 = some (.cells (evC X) false) := fun _ => k1
  replace k9 : ∀ n, St.get ⟨sto, n⟩ 9 = some (.cells (evC .zero) false) := fun _ => k9
  subst hc
  by_cases h1 : a < 0
  · have hg : getE l a X = (.zero, 0, 2) := by unfold getE; rw [if_pos (.inl h1)]
    rw [hg]
    simp (disch := first | omega | rfl | assumption) only [↓Z0, ↓Xp, ↓Xt, Xq, Xc, binP, ofCells, Nat.reduceAdd, Nat.reduceMul, Nat.reduceLT, Nat.reduceEqDiff, reduceIte, Xm, Nat.reduceLeDiff, Xa, Xn, hz, hlv, g0, g1, g5, g6, k1, k9]
    refine ⟨nofun, [.agg (evC .zero), .i .i64 0, .i .i64 2], ?_, rfl⟩
    simp (disch := first | omega | rfl | assumption) only [mapO, resP, ↓Z0, ↓Xp, ↓Xt, Xq, Xc, binP, ofCells, Nat.reduceAdd, Nat.reduceMul, Nat.reduceLT, Nat.reduceEqDiff, reduceIte, Xm, Nat.reduceLeDiff, hz, ofNat_c, g0, g1, g5, g6, k1, k9]
    rfl
  by_cases h2 : (l.length : Int) < a
  · have hg : getE l a X = (.zero, 0, 2) := by unfold getE; rw [if_pos (.inr h2)]
    rw [hg]
    simp (disch := first | omega | rfl | assumption) only [↓Z0, ↓Xp, ↓Xt, Xq, Xc, binP, ofCells, Nat.reduceAdd, Nat.reduceMul, Nat.reduceLT, Nat.reduceEqDiff, reduceIte, Xm, Nat.reduceLeDiff, Xa, Xn, hz, hlv, g0, g1, g5, g6, k1, k9]
    refine ⟨nofun, [.agg (evC .zero), .i .i64 0, .i .i64 2], ?_, rfl⟩
    simp (disch := first | omega | rfl | assumption) only [mapO, resP, ↓Z0, ↓Xp, ↓Xt, Xq, Xc, binP, ofCells, Nat.reduceAdd, Nat.reduceMul, Nat.reduceLT, Nat.reduceEqDiff, reduceIte, Xm, Nat.reduceLeDiff, hz, ofNat_c, g0, g1, g5, g6, k1, k9]
    rfl
  by_cases h3 : a = l.length
  · have hg : getE l a X = (.zero, 0, 11) := by unfold getE; rw [if_neg (by omega), if_pos h3]
    rw [hg]
    simp (disch := first | omega | rfl | assumption) only [↓Z0, ↓Xp, ↓Xt, Xq, Xc, binP, ofCells, Nat.reduceAdd, Nat.reduceMul, Nat.reduceLT, Nat.reduceEqDiff, reduceIte, Xm, Nat.reduceLeDiff, Xa, Xn, hz, hlv, g0, g1, g5, g6, k1, k9]
    refine ⟨nofun, [.agg (evC .zero), .i .i64 0, .i .i64 11], ?_, rfl⟩
    simp (disch := first | omega | rfl | assumption) only [mapO, resP, ↓Z0, ↓Xp, ↓Xt, Xq, Xc, binP, ofCells, Nat.reduceAdd, Nat.reduceMul, Nat.reduceLT, Nat.reduceEqDiff, reduceIte, Xm, Nat.reduceLeDiff, hz, ofNat_c, g0, g1, g5, g6, k1, k9]
    rfl
  obtain ⟨p, rfl⟩ : ∃ n : Nat, a = (n : Int) := ⟨a.toNat, by omega⟩
  have hg := getE_gets (l := l) (a := (p : Int)) (X := X) (by omega) (by omega)
  rw [hg]
  clear hg
  have hpl : p < l.length := by omega
  have hl0 : l ≠ [] := by intro e; rw [e] at hpl; simp at hpl
  have hld := fun st => load_in (st := st) hpl
  simp only [Nat.mul_one] at hld
  have hvc := in_cons hv hl0
  have hq4 : ∀ (st : St) (key : Nat) (Z : Ev), callStep (runPure cfg (evFn cfg fuel) 30) false st key [.agg (evC Z)] = some (.agg (i64C (fourL Z)), st) := by
    intro st key Z
    refine callStep_gen (r := .agg (i64C (fourL Z))) (ps' := [.agg (evC Z)]) rfl ?_ rfl
    rw [runPure_ext hx1]; rfl
  have hgi : ∀ (st : St) (key : Nat) (a : Int), callStep (runPure cfg (evFn cfg fuel) 40) false st key [v, .i .i64 a] = some (.tup [.i .i64 (getI l a).1, .i .i64 (getI l a).2.1, .i .i64 (getI l a).2.2], st) := by
    intro st key a
    refine callStep_flat (by simp only [List.all_cons, in_flat hv, List.all_nil, Bool.and_self]; rfl) ?_ rfl
    rw [runPure_ext hx2]
    unfold gRGetI
    simp only [hv]
    rw [if_pos hl]; rfl
  have hof : ∀ Z, ofCells true (evC Z) = some (.agg (evC Z)) := fun _ => rfl
  have hi4 : ∀ Z, i64C (fourL Z) = [.i .i64 Z.T, .i .i64 Z.J, .i .i64 Z.A, .i .i64 Z.B] := fun _ => rfl
  subst hvc
  have hlb := len_ofBytes l
  refine Za (fun x => x.env.get 0 = .fsl l.length (ofBytes l) ∧ x.env.get 1 = .i .i64 (p : Int) ∧ x.env.get 5 = .ptr 1 0 ∧ x.env.get 6 = .ptr 9 0 ∧ x.st.get 1 = some (.cells (evC X) false) ∧ x.st.get 9 = some (.cells (evC .zero) false) ∧ x.st.cnt = 97) ?_ ?_
  · simp (disch := first | omega | rfl | assumption) only [↓Z0, ↓Xp, ↓Xt, Xq, Xc, binP, ofCells, Nat.reduceAdd, Nat.reduceMul, Nat.reduceLT, Nat.reduceEqDiff, reduceIte, Xm, Nat.reduceLeDiff, Xa, Xn, g0, g1, g5, g6, k1, k9, hlv]
    (repeat' (first | exact True.intro | rfl | assumption | omega | apply And.intro | exact St.get_putk _ _ _ | refine ⟨_, rfl, ?_⟩))
  clear g0 g1 g5 g6 k1 k9
  rintro ⟨env, ⟨sto, c⟩⟩ ⟨g0, g1, g5, g6, k1, k9, hc⟩
  simp only at g0 g1 g5 g6 k1 k9 hc
  replace k1 : ∀ n, St.get ⟨sto, n⟩ 1 = some (.cells (evC X) false) := fun _ => k1
  replace k9 : ∀ n, St.get ⟨sto, n⟩ 9 = some (.cells (evC .zero) false) := fun _ => k9
  subst hc
  refine Za (fun x => x.env.get 0 = .fsl l.length (ofBytes l) ∧ x.env.get 1 = .i .i64 (p : Int) ∧ x.env.get 5 = .ptr 1 0 ∧ x.env.get 6 = .ptr 9 0 ∧ x.st.get 1 = some (.cells (evC X) false) ∧ x.st.get 9 = some (.cells (evC .zero) false) ∧ x.st.cnt = 129) ?_ ?_
  · simp (disch := first | omega | rfl | assumption) only [↓Z0, ↓Xp, ↓Xt, Xq, Xc, binP, ofCells, Nat.reduceAdd, Nat.reduceMul, Nat.reduceLT, Nat.reduceEqDiff, reduceIte, Xm, Nat.reduceLeDiff, Xa, Xn, g0, g1, g5, g6, k1, k9, hlv]
    (repeat' (first | exact True.intro | rfl | assumption | omega | apply And.intro | exact St.get_putk _ _ _ | refine ⟨_, rfl, ?_⟩))
  clear g0 g1 g5 g6 k1 k9
  rintro ⟨env, ⟨sto, c⟩⟩ ⟨g0, g1, g5, g6, k1, k9, hc⟩
  simp only at g0 g1 g5 g6 k1 k9 hc
  replace k1 : ∀ n, St.get ⟨sto, n⟩ 1 = some (.cells (evC X) false) := fun _ => k1
  replace k9 : ∀ n, St.get ⟨sto, n⟩ 9 = some (.cells (evC .zero) false) := fun _ => k9
  subst hc
  refine Za (fun x => x.env.get 0 = .fsl l.length (ofBytes l) ∧ x.env.get 1 = .i .i64 (p : Int) ∧ x.env.get 5 = .ptr 1 0 ∧ x.env.get 6 = .ptr 9 0 ∧ x.st.get 1 = some (.cells (evC X) false) ∧ x.st.get 9 = some (.cells (evC .zero) false) ∧ x.st.cnt = 169 ∧ x.env.get 9 = .i .u8 ((l.getD p 0).toNat : Int)) ?_ ?_
  · simp (disch := first | omega | rfl | assumption) only [↓Z0, ↓Xp, ↓Xt, Xq, Xc, binP, ofCells, Nat.reduceAdd, Nat.reduceMul, Nat.reduceLT, Nat.reduceEqDiff, reduceIte, Xl, Nat.reduceLeDiff, Xa, Xn, g0, g1, g5, g6, k1, k9, hld, hlb, Nat.mul_one]
    (repeat' (first | exact True.intro | rfl | assumption | omega | apply And.intro | exact St.get_putk _ _ _ | refine ⟨_, rfl, ?_⟩))
  clear g0 g1 g5 g6 k1 k9
  rintro ⟨env, ⟨sto, c⟩⟩ ⟨g0, g1, g5, g6, k1, k9, hc, g9⟩
  simp only at g0 g1 g5 g6 k1 k9 hc g9
  replace k1 : ∀ n, St.get ⟨sto, n⟩ 1 = some (.cells (evC X) false) := fun _ => k1
  replace k9 : ∀ n, St.get ⟨sto, n⟩ 9 = some (.cells (evC .zero) false) := fun _ => k9
  subst hc
  refine Za (fun x => x.env.get 0 = .fsl l.length (ofBytes l) ∧ x.env.get 1 = .i .i64 ((p : Int) + 1) ∧ x.env.get 5 = .ptr 1 0 ∧ x.env.get 6 = .ptr 9 0 ∧ x.st.get 1 = some (.cells (evC X) false) ∧ x.st.get 9 = some (.cells (evC .zero) false) ∧ x.st.cnt = 193 ∧ x.env.get 9 = .i .u8 ((l.getD p 0).toNat : Int)) ?_ ?_
  · simp (disch := first | omega | rfl | assumption) only [↓Z0, ↓Xp, ↓Xt, Xq, Xc, binP, ofCells, Nat.reduceAdd, Nat.reduceMul, Nat.reduceLT, Nat.reduceEqDiff, reduceIte, Xm, Nat.reduceLeDiff, Xa, Xn, g0, g1, g5, g6, k1, k9, g9]
    (repeat' (first | exact True.intro | rfl | assumption | omega | apply And.intro | exact St.get_putk _ _ _ | refine ⟨_, rfl, ?_⟩))
  clear g0 g1 g5 g6 k1 k9 g9
  rintro ⟨env, ⟨sto, c⟩⟩ ⟨g0, g1, g5, g6, k1, k9, hc, g9⟩
  simp only at g0 g1 g5 g6 k1 k9 hc g9
  replace k1 : ∀ n, St.get ⟨sto, n⟩ 1 = some (.cells (evC X) false) := fun _ => k1
  replace k9 : ∀ n, St.get ⟨sto, n⟩ 9 = some (.cells (evC .zero) false) := fun _ => k9
  subst hc
  refine Za (fun x => x.env.get 0 = .fsl l.length (ofBytes l) ∧ x.env.get 1 = .i .i64 ((p : Int) + 1) ∧ x.env.get 6 = .ptr 9 0 ∧ x.env.get 9 = .i .u8 ((l.getD p 0).toNat : Int) ∧ x.env.get 10 = .ptr 209 0 ∧ x.st.get 9 = some (.cells (evC .zero) false) ∧ x.st.get 209 = some (.cells (i64C (fourL X)) false) ∧ 210 ≤ x.st.cnt) ?_ ?_
  · have hl5 : ∀ n, loadP ⟨sto, n⟩ 5 (.ptr 1 0) = some (evC X) := by
      intro n; unfold loadP; simp only [k1 n]; rfl
    simp (disch := first | omega | rfl | assumption) only [↓Z0, ↓Xp, ↓Xt, Xq, Xc, binP, ofCells, Nat.reduceAdd, Nat.reduceMul, Nat.reduceLT, Nat.reduceEqDiff, reduceIte, g0, g1, g5, g6, k1, k9, g9, hl5, hof, hq4]
    simp (disch := first | omega | rfl | assumption) only [↓Z0, ↓Xp, ↓Xt, Xq, Xc, binP, ofCells, Nat.reduceAdd, Nat.reduceMul, Nat.reduceLT, Nat.reduceEqDiff, reduceIte, Xm, Nat.reduceLeDiff, g0, g1, g5, g6, k1, k9, g9, hi4]
    (repeat' (first | exact True.intro | rfl | assumption | omega | apply And.intro))
  clear g0 g1 g5 g6 k1 k9 g9
  rintro ⟨env, ⟨sto, c⟩⟩ ⟨g0, g1, g6, g9, g10, k9, k209, hcc⟩
  simp only at g0 g1 g6 g9 g10 k9 k209 hcc
  replace k9 : ∀ n, St.get ⟨sto, n⟩ 9 = some (.cells (evC .zero) false) := fun _ => k9
  replace k209 : ∀ n, St.get ⟨sto, n⟩ 209 = some (.cells (i64C (fourL X)) false) := fun _ => k209
  obtain ⟨G, hG⟩ : ∃ G, getsL l (fourL X) ((p : Int) + 1) = G := ⟨_, rfl⟩
  rw [hG]
  refine WC_cutR (fun x => ∃ (N : List Int) (a : Int), N.length = 4 ∧ G = .inl (N, a) ∧ x.env.get 1 = .i .i64 a ∧ x.env.get 6 = .ptr 9 0 ∧ x.env.get 9 = .i .u8 ((l.getD p 0).toNat : Int) ∧ x.env.get 10 = .ptr 209 0 ∧ x.st.get 9 = some (.cells (evC .zero) false) ∧ x.st.get 209 = some (.cells (i64C N) false) ∧ 210 ≤ x.st.cnt) ?_ ?_
  · rw [Z0]
    simp (disch := first | omega | rfl | assumption) only [↓Xp, ↓Xt, Xq, Xc, binP, ofCells, Nat.reduceAdd, Nat.reduceMul, Nat.reduceLT, Nat.reduceEqDiff, reduceIte, g0, g1, g6, g9, g10, k9, k209]
    refine Z9 (k := 4 - 0) (fun d x => ∃ (i : Nat) (N : List Int) (a : Int), i ≤ 4 ∧ d = 4 - i ∧ N.length = 4 ∧ combL (N.take i) (getsL l (N.drop i) a) = G ∧ x.env.get 0 = .fsl l.length (ofBytes l) ∧ x.env.get 1 = .i .i64 a ∧ x.env.get 6 = .ptr 9 0 ∧ x.env.get 9 = .i .u8 ((l.getD p 0).toNat : Int) ∧ x.env.get 10 = .ptr 209 0 ∧ x.env.get 11 = .i .i64 (i : Int) ∧ x.st.get 9 = some (.cells (evC .zero) false) ∧ x.st.get 209 = some (.cells (i64C N) false) ∧ 210 ≤ x.st.cnt) ?_ ?_ (by omega)
    · skip
      clear g0 g1 g6 g9 g10 k9 k209 hcc
      rintro d ⟨env, ⟨sto, c⟩⟩ ⟨i, N, a, hi, rfl, hN, hcomb, g0, g1, g6, g9, g10, g11, k9, k209, hcc⟩
      simp only at g0 g1 g6 g9 g10 g11 k9 k209 hcc
      replace k9 : ∀ n, St.get ⟨sto, n⟩ 9 = some (.cells (evC .zero) false) := fun _ => k9
      replace k209 : ∀ n, St.get ⟨sto, n⟩ 209 = some (.cells (i64C N) false) := fun _ => k209
      have hgi1 := fun st key => hgi st key a
      clear hgi
      by_cases h4 : i < 4
      · have hdr : N.drop i = N.getD i 0 :: N.drop (i + 1) := by
          rw [List.drop_eq_getElem_cons (by omega)]; simp [List.getD_eq_getElem?_getD, show i < N.length by omega]
        rw [hdr] at hcomb
        have hok := fun h => gets_ok (l := l) (x := N.getD i 0) (a := a) (r := N.drop (i + 1)) (P := N.take i) h
        have hno := fun h => gets_no (l := l) (x := N.getD i 0) (a := a) (r := N.drop (i + 1)) (P := N.take i) h
        generalize getI l a = T at hgi1 hok hno
        obtain ⟨n, nx, e⟩ := T
        simp only at hgi1 hok hno
        by_cases he : e = 0
        · have h2 := hok he
          rw [hcomb] at h2
          have hld := fun n => load_i64 (k209 n) (show i < N.length by omega)
          have hst := fun n m => store_i64 (k209 n) (show i < N.length by omega) m
          simp only [Nat.zero_add, Nat.mul_one] at hld hst
          simp (disch := first | omega | rfl | assumption) only [↓Z0, ↓Xp, ↓Xt, Xq, Xc, binP, ofCells, Nat.reduceAdd, Nat.reduceMul, Nat.reduceLT, Nat.reduceEqDiff, reduceIte, Xl, Nat.reduceLeDiff, Xa, Xn, g0, g1, g6, g9, g10, g11, k9, k209, hgi1, hld, hst, wrap_add]
          have hset : (N.set i (IntKind.i64.wrap (N.getD i 0 + n))).take (i + 1) = N.take i ++ [IntKind.i64.wrap (N.getD i 0 + n)] := by
            rw [List.set_eq_take_append_cons_drop, if_pos (by omega), List.take_append, List.length_take, show min i N.length = i by omega, List.take_of_length_le (by rw [List.length_take]; omega)]
            simp
          have hset2 : (N.set i (IntKind.i64.wrap (N.getD i 0 + n))).drop (i + 1) = N.drop (i + 1) := by
            rw [List.drop_set_of_lt (by omega)]
          refine ⟨4 - (i + 1), by omega, i + 1, N.set i (IntKind.i64.wrap (N.getD i 0 + n)), nx, by omega, rfl, by rw [List.length_set]; exact hN, ?_, rfl, rfl, rfl⟩
          rw [hset, hset2]
          exact h2.symm
        · have h2 := hno he
          rw [hcomb] at h2
          subst h2
          simp (disch := first | omega | rfl | assumption) only [↓Z0, ↓Xp, ↓Xt, Xq, Xc, binP, ofCells, Nat.reduceAdd, Nat.reduceMul, Nat.reduceLT, Nat.reduceEqDiff, reduceIte, Xm, Nat.reduceLeDiff, Xa, Xn, hz, g0, g1, g6, g9, g10, g11, k9, k209, hgi1]
          refine ⟨nofun, [.agg (evC .zero), .i .i64 0, .i .i64 e], ?_, rfl⟩
          simp (disch := first | omega | rfl | assumption) only [mapO, resP, ↓Z0, ↓Xp, ↓Xt, Xq, Xc, binP, ofCells, Nat.reduceAdd, Nat.reduceMul, Nat.reduceLT, Nat.reduceEqDiff, reduceIte, Xm, Nat.reduceLeDiff, hz, ofNat_c, g0, g1, g6, g9, g10, g11, k9, k209]
          rfl
      · have hi' : i = 4 := by omega
        subst hi'
        simp (disch := first | omega | rfl | assumption) only [↓Z0, ↓Xp, ↓Xt, Xq, Xc, binP, ofCells, Nat.reduceAdd, Nat.reduceMul, Nat.reduceLT, Nat.reduceEqDiff, reduceIte, Xa, Xn, g0, g1, g6, g9, g10, g11, k9, k209]
        refine ⟨N, a, hN, ?_, rfl, rfl⟩
        rw [← hcomb, List.drop_eq_nil_of_le (by omega), List.take_of_length_le (by omega)]
        simp [getsL, combL]
    · refine ⟨0, fourL X, (p : Int) + 1, by omega, rfl, rfl, ?_, ?_⟩
      · rw [← hG]; exact combL_nil _
      · simp (disch := first | omega | rfl | assumption) only [↓Z0, ↓Xp, ↓Xt, Xq, Xc, binP, ofCells, Nat.reduceAdd, Nat.reduceMul, Nat.reduceLT, Nat.reduceEqDiff, reduceIte, g0, g1, g6, g9, g10, k9, k209, ofNat_c]
        (repeat' (first | exact True.intro | rfl | assumption | omega | apply And.intro))
  clear g0 g1 g6 g9 g10 k9 k209
  rintro ⟨env, ⟨sto, c⟩⟩ ⟨N, a, hN, rfl, g1, g6, g9, g10, k9, k209, hcc⟩
  simp only at g1 g6 g9 g10 k9 k209 hcc
  replace k9 : ∀ n, St.get ⟨sto, n⟩ 9 = some (.cells (evC .zero) false) := fun _ => k9
  replace k209 : ∀ n, St.get ⟨sto, n⟩ 209 = some (.cells (i64C N) false) := fun _ => k209
  match N, hN with
  | [t, j, y, z], _ =>
    have hi5 : i64C [t, j, y, z] = [.i .i64 t, .i .i64 j, .i .i64 y, .i .i64 z] := rfl
    simp (disch := first | omega | rfl | assumption) only [↓Z0, ↓Xp, ↓Xt, Xq, Xc, binP, ofCells, Nat.reduceAdd, Nat.reduceMul, Nat.reduceLT, Nat.reduceEqDiff, reduceIte, Xm, Nat.reduceLeDiff, Xa, Xn, hz, hi5, g1, g6, g9, g10, k9, k209]
    refine ⟨nofun, [.agg (evC ⟨t, l.getD p 0, j, y, z⟩), .i .i64 a, .i .i64 0], ?_, rfl⟩
    simp (disch := first | omega | rfl | assumption) only [mapO, resP, ↓Z0, ↓Xp, ↓Xt, Xq, Xc, binP, ofCells, Nat.reduceAdd, Nat.reduceMul, Nat.reduceLT, Nat.reduceEqDiff, reduceIte, Xm, Nat.reduceLeDiff, hz, ofNat_c, g1, g6, g9, g10, k9, k209]
    rfl
end Go.Pe
