/-
 WordsNames, by the interpreter of plain data. Condition: the table of blanks.
-/
import Derived.Test.YtaepgkghgcchnaaDoorWnmU
import Derived.Test.YtaepgkghgcchnaaDoorWnmA
import Derived.Test.YtaepgkghgcchnaaDoorBldA
import Derived.Test.YtaepgkghgcchnaaDoorPeB
import Derived.Test.YtaepgkghgcchnaaDoorView
set_option linter.unusedVariables false
set_option linter.unusedSimpArgs false
set_option maxHeartbeats 8000000
set_option maxRecDepth 100000
namespace Go.Pe
open Go Go.Am Go.RowKit

theorem NiI (x : Nat) : ([97, 98, 99, 100, 101, 102, 103, 104, 105, 106, 107, 108, 109, 110, 111, 112, 113, 114, 115, 116, 117, 118, 119, 120, 121, 122, 65, 66, 67, 68, 69, 70, 71, 72, 73, 74, 75, 76, 77, 78, 79, 80, 81, 82, 83, 84, 85, 86, 87, 88, 89, 90, 95, 48, 49, 50, 51, 52, 53, 54, 55, 56, 57] : List UInt8)[x % 63]? = some (alC x) := by
 have h : ∀ m, m < 63 → ([97, 98, 99, 100, 101, 102, 103, 104, 105, 106, 107, 108, 109, 110, 111, 112, 113, 114, 115, 116, 117, 118, 119, 120, 121, 122, 65, 66, 67, 68, 69, 70, 71, 72, 73, 74, 75, 76, 77, 78, 79, 80, 81, 82, 83, 84, 85, 86, 87, 88, 89, 90, 95, 48, 49, 50, 51, 52, 53, 54, 55, 56, 57] : List UInt8)[m]? = some (alT.getD m 0) := by decide +kernel
 exact h _ (Nat.mod_lt _ (by omega))
theorem NdG {t : List UInt8} {a : Nat} (ht : t.length ≤ 16384) (ha : a ≤ t.length) : gNext [.s t, .i .i64 (a : Int)] = some (Nb1 t a) := by
 show some (if 16384 < t.length then _ else if _ then _ else _) = _
 rw [if_neg (by omega), if_neg (by omega), Int.toNat_natCast]
theorem Nf2 {c : UInt8} {r : List UInt8} (h4 : cls c = 4) (h : alnum (c :: r)) (hl : (c :: r).length ≤ 1000) : gIs [.s (c :: r), .i .i64 ((0 : Nat) : Int), .agg [.i .u8 (if Nc2 (32 :: (c :: r) ++ [32]) NaS then 3 else 2), .s (c :: r), .i .i64 ((0 : Nat) : Int), .i .i64 ((1 : Nat) : Int), .i .i64 ((0 : Nat) : Int), .i .i64 ((c :: r).length : Int)]] = some (.b true) := by
 have g := NdG (t := c :: r) (a := 0) (by omega) (by omega)
 rw [NdH (Nat.zero_le _)] at g
 simp only [List.drop_zero, Nat.zero_add, Nd4 h4 h, Nbm h.head, Niz, Ncr, List.take_zero] at g
 unfold gIs
 exact if_pos g
theorem Nga {run : List UInt8} {D : Nat} {c : UInt8} {r : List UInt8} (he : run.drop D = c :: r) (h4 : cls c = 4) (hal : alnum run) (hl : run.length ≤ 40) (hD : D ≤ run.length) : ∃ K line : Int, (K = 2 ∨ K = 3) ∧ gNext [.s run, .i .i64 (D : Int)] = some (NbO K (c :: r) 0 line (D : Int) ((run.length : Nat) : Int)) := by
 have hr : alnum (c :: r) := he ▸ hal.drop D
 have hlen : (c :: r).length = run.length - D := by rw [← he, List.length_drop]
 refine ⟨if Nc2 (32 :: (c :: r) ++ [32]) NaS then 3 else 2, Ncr run (D + 0), by split <;> simp, ?_⟩
 rw [NdG (by omega) hD, NdH hD, he, Nd4 h4 hr, Nbm hr.head]
 show some (NbO _ _ _ _ _ _) = _
 rw [hlen, show D + 0 + (run.length - D) = run.length by omega, Nat.add_zero]
theorem Ng2 {run : List UInt8} {D : Nat} (h0 : 0 < D) (hD : D ≤ run.length) (hd : ∀ c ∈ run.take D, cls c = 3) (hl : run.length ≤ 40) : (∃ line, gNext [.s run, .i .i64 ((0 : Nat) : Int)] = some (Na4 100 line)) ∨ ∃ (n line : Int) (e : Nat), gNext [.s run, .i .i64 ((0 : Nat) : Int)] = some (NbO 1 [] n line ((0 : Nat) : Int) ((e : Nat) : Int)) ∧ D ≤ e ∧ e ≤ run.length := by
 have hp : Nbe false run = 0 := by
  cases run with
  | nil => rfl
  | cons c r =>
    obtain ⟨d, rfl⟩ : ∃ d, D = d + 1 := ⟨D - 1, by omega⟩
    exact Nbm (.inl (hd c (by simp)))
 rw [NdG (by omega) (Nat.zero_le _), NdH (Nat.zero_le _), List.drop_zero, hp]
 rcases NgY h0 hD hd with h | ⟨n, e, h, h2, h3⟩
 ·rw [h]
  exact .inl ⟨_, rfl⟩
 ·rw [h]
  refine .inr ⟨n, Ncr run (0 + 0), e, ?_, h2, h3⟩
  show some (NbO _ _ _ _ _ _) = _
  simp
theorem NbX {g : List PV → Option PV} {st : St} {key : Nat} {ps : List PV} {r : PV} (hd : Nbq st ps = some ps) (hk : keysL st ps = []) (hg : g ps = some r) (hr : NaC st key r = some (r, st)) : Nal g false st key ps = some (r, st) := by
 unfold Nal
 simp only [hd, hg, hk, Nak, ite_self, hr]
def Nb0 (c : UInt8) : Bool := decide (97 ≤ c.toNat) && decide (c.toNat < 123)
def Njo : List UInt8 → Bool
 | c :: d :: r => Nb0 c && Nb0 d && r.all Nb0 && decide (r.length ≤ 12)
 | _ => false
theorem Nid : ∀ j, j < 37 → Njo (keysT.getD j []) = true ∧ Nc2 (32 :: (keysT.getD j []) ++ [32]) NaS = true := by decide +kernel
theorem Nf3 : keysT = keyWs := by decide +kernel
theorem NaV {c : UInt8} (h : Nb0 c = true) : cls c = 4 ∧ cls (UInt8.ofNat (c.toNat - 32)) = 4 := by
 have := NcL (p := fun c => !Nb0 c || (decide (cls c = 4) && decide (cls (UInt8.ofNat (c.toNat - 32)) = 4))) (by decide +kernel) c
 simpa [h] using this
theorem NjJ {j : Nat} (h : j < 37) : List.take 1 (List.drop j (txW keysT)) = [.s (keysT.getD j [])] := by
 have hl : (txW keysT).length = 37 := by decide +kernel
 rw [List.drop_eq_getElem_cons (by rw [hl]; exact h)]
 simp only [List.take_succ_cons, List.take_zero, txW, List.getElem_map]
 have hx : j < keysT.length := by rw [NbZ]; exact h
 simp only [List.getD, List.getElem?_eq_getElem hx, Option.getD_some]
theorem Nf8 {l : List UInt8} {wh ch : Int} (hl : l.length ≤ reachBytes) (hc : 0 ≤ ch ∧ ch < 256) (hw : -9223372036854775808 ≤ wh ∧ wh < 9223372036854775808) : ∃ fuel, evP cfgN fuel 4 [.fsl l.length (Nau l), .i .i64 wh, .i .u8 ch] = some (.b true) := by
 refine ⟨200 + 1, NfQ (by kernel_rfl) rfl (Nbj (by kernel_rfl : cfgN.fn 4 = some m4) ?_)⟩
 unfold m4
 simp only [Nap]
 (try rw [Z0])
 (try simp (maxSteps := 2000000) (disch := first | omega | rfl | assumption) only [↓Xp, ↓Xt, Xq, Xc, Naf, Naa, Nat.reduceAdd, Nat.reduceMul, Nat.reduceLT, Nat.reduceEqDiff, reduceIte, Xa, Xn, unP, Nag, Nah, Nai, Xm, Nat.reduceLeDiff, List.nil_append, List.cons_append, NcK])
 (try rw [Z0])
 (try simp (maxSteps := 2000000) (disch := first | omega | rfl | assumption) only [↓Xp, ↓Xt, Xq, Xc, Naf, Naa, Nat.reduceAdd, Nat.reduceMul, Nat.reduceLT, Nat.reduceEqDiff, reduceIte, Xa, Xn, unP, Nag, Nah, Nai, Xm, Nat.reduceLeDiff, List.nil_append, List.cons_append, NcK])
 (try rw [Z0])
 (try simp (maxSteps := 2000000) (disch := first | omega | rfl | assumption) only [↓Xp, ↓Xt, Xq, Xc, Naf, Naa, Nat.reduceAdd, Nat.reduceMul, Nat.reduceLT, Nat.reduceEqDiff, reduceIte, Xa, Xn, unP, Nag, Nah, Nai, Xm, Nat.reduceLeDiff, List.nil_append, List.cons_append, NcK])
 have hlr : l.length < 4611686018427387904 := by have : reachBytes < 4611686018427387904 := by decide
                                                 omega
 refine Za (fun x => x.env.get 1 = .i .i64 wh ∧ x.env.get 2 = .i .u8 ch ∧ x.env.get 7 = .ptr 9 0 ∧ ∃ D : Nat, x.env.get 8 = .i .i64 (D : Int) ∧ D ≤ (runT (l.take 40)).length ∧ (∀ c ∈ (runT (l.take 40)).take D, cls c = 3) ∧ Bld 9 (runT (l.take 40)) x.st ∧ 9 < x.st.cnt) ?_ ?_
 ·skip
  (try rw [Z0])
  (try simp (maxSteps := 2000000) (disch := first | omega | rfl | assumption) only [↓Xp, ↓Xt, Xq, Xc, Naf, Naa, Nat.reduceAdd, Nat.reduceMul, Nat.reduceLT, Nat.reduceEqDiff, reduceIte, Xa, Xn, unP, Nag, Nah, Nai, Xm, Nat.reduceLeDiff, List.nil_append, List.cons_append])
  refine Z9 (k := 40 - 0) (fun d x => ∃ i : Nat, ∃ D : Nat, d = 40 - i ∧ i ≤ 40 ∧ i ≤ l.length ∧ x.env.get 0 = .fsl l.length (Nau l) ∧ x.env.get 1 = .i .i64 wh ∧ x.env.get 2 = .i .u8 ch ∧ x.env.get 7 = .ptr 9 0 ∧ x.env.get 8 = .i .i64 (D : Int) ∧ x.env.get 9 = .i .i64 (i : Int) ∧ D ≤ i ∧ (∀ c ∈ (runT (l.take i)).take D, cls c = 3) ∧ Bld 9 (runT (l.take i)) x.st ∧ 9 < x.st.cnt) ?_ ⟨0, 0, rfl, by omega, by omega, by simp [Env.get_put], by simp [Env.get_put], by simp [Env.get_put], by simp [Env.get_put], by simp [Env.get_put], by simp [Env.get_put], by omega, by simp, .inl ⟨by rw [Ngv, St.get_putk], rfl⟩, (by simp only; omega)⟩ (by omega)
  rintro d ⟨env, ⟨sto, cnt⟩⟩ ⟨i, D, rfl, hi, hil, g0, g1, g2, g7, g8, g9, hDi, hD, hB, hc⟩
  simp only at g0 g1 g2 g7 g8 g9 hB hc
  by_cases h1 : i < l.length
  ·have h1' : (((i : Nat) : Int) < ((l.length : Nat) : Int)) = True := by simp; omega
   by_cases h2 : i < 40
   ·have h2' : (((i : Nat) : Int) < ((40 : Nat) : Int)) = True := by simp; omega
    have e1 : (Nau l).length = l.length := Nbd l
    have e2 : List.take 1 (List.drop i (Nau l)) = [.i .u8 (l[i].toNat : Int)] := by
     have : List.drop i (Nau l) = .i .u8 (l[i].toNat : Int) :: List.drop (i + 1) (Nau l) := by
      rw [List.drop_eq_getElem_cons (by rw [e1]; exact h1)]
      simp [Nau]
     rw [this]; rfl
    have e3 : (1 ≤ (List.drop i (Nau l)).length) = True := by rw [List.length_drop, e1]; simp; omega
    have z63 : (((63 : Nat) : Int) = 0) = False := by simp
    have hb := l[i].toNat_lt
    have e0 : IntKind.i64.wrap ((l[i].toNat : Nat) : Int) = ((l[i].toNat : Nat) : Int) := NaM _ ⟨by omega, by omega⟩
    have e4 : ((l[i].toNat : Nat) : Int).tmod ((63 : Nat) : Int) = ((l[i].toNat % 63 : Nat) : Int) := by rw [Int.ofNat_tmod]
    have e5 := NiI l[i].toNat
    have eW : IntKind.i64.wrap (((i + 1 : Nat)) : Int) = ((i + 1 : Nat) : Int) := NaM _ ⟨by omega, by omega⟩
    have eD : IntKind.i64.wrap (((D + 1 : Nat)) : Int) = ((D + 1 : Nat) : Int) := NaM _ ⟨by omega, by omega⟩
    have hrl : (runT (l.take i)).length = i := by rw [NcH, List.length_take]; omega
    have hsn : runT (l.take (i + 1)) = runT (l.take i) ++ [alC l[i].toNat] := by rw [List.take_succ_eq_append_getElem h1, Ngp]
    generalize hcc : alC l[i].toNat = c at e5 hsn
    have hdg := NdP c
    have hcs : D ≠ i ∨ (D = i ∧ c.toNat < 48) ∨ (D = i ∧ 48 ≤ c.toNat ∧ 57 < c.toNat) ∨ (D = i ∧ 48 ≤ c.toNat ∧ c.toNat ≤ 57 ∧ 18 ≤ i) ∨ (D = i ∧ 48 ≤ c.toNat ∧ c.toNat ≤ 57 ∧ i < 18) := by omega
    have hkeep : ∀ c' ∈ (runT (l.take (i + 1))).take D, cls c' = 3 := by
     rw [hsn, List.take_append_of_le_length (by omega)]
     exact hD
    (try rw [Z0])
    (try simp (maxSteps := 2000000) (disch := first | omega | rfl | assumption) only [↓Xp, ↓Xt, Xq, Xc, Naf, Naa, Nat.reduceAdd, Nat.reduceMul, Nat.reduceLT, Nat.reduceEqDiff, reduceIte, Xa, Xn, unP, Nag, Nah, Nai, Xm, Nat.reduceLeDiff, List.nil_append, List.cons_append, g0, g1, g2, g7, g8, g9, h1', h2', e0, e1, e2, e3, e4, z63, e5])
    (try rw [Z0])
    (try simp (maxSteps := 2000000) (disch := first | omega | rfl | assumption) only [↓Xp, ↓Xt, Xq, Xc, Naf, Naa, Nat.reduceAdd, Nat.reduceMul, Nat.reduceLT, Nat.reduceEqDiff, reduceIte, Xa, Xn, unP, Nag, Nah, Nai, Xm, Nat.reduceLeDiff, List.nil_append, List.cons_append, g0, g1, g2, g7, g8, g9, h1', h2', e0, e1, e2, e3, e4, z63, e5])
    (try rw [Z0])
    (try simp (maxSteps := 2000000) (disch := first | omega | rfl | assumption) only [↓Xp, ↓Xt, Xq, Xc, Naf, Naa, Nat.reduceAdd, Nat.reduceMul, Nat.reduceLT, Nat.reduceEqDiff, reduceIte, Xa, Xn, unP, Nag, Nah, Nai, Xm, Nat.reduceLeDiff, List.nil_append, List.cons_append, g0, g1, g2, g7, g8, g9, h1', h2', e0, e1, e2, e3, e4, z63, e5])
    (try rw [Z0])
    (try simp (maxSteps := 2000000) (disch := first | omega | rfl | assumption) only [↓Xp, ↓Xt, Xq, Xc, Naf, Naa, Nat.reduceAdd, Nat.reduceMul, Nat.reduceLT, Nat.reduceEqDiff, reduceIte, Xa, Xn, unP, Nag, Nah, Nai, Xm, Nat.reduceLeDiff, List.nil_append, List.cons_append, g0, g1, g2, g7, g8, g9, h1', h2', e0, e1, e2, e3, e4, z63, e5])
    refine Za (fun y => y.env.get 0 = .fsl l.length (Nau l) ∧ y.env.get 1 = .i .i64 wh ∧ y.env.get 2 = .i .u8 ch ∧ y.env.get 7 = .ptr 9 0 ∧ y.env.get 9 = .i .i64 (i : Int) ∧ y.env.get 10 = .i .u8 (c.toNat : Int) ∧ (∃ D' : Nat, y.env.get 8 = .i .i64 (D' : Int) ∧ D' ≤ i + 1 ∧ ∀ c' ∈ (runT (l.take (i + 1))).take D', cls c' = 3) ∧ y.st.sto = sto ∧ cnt ≤ y.st.cnt) ?_ ?_
    ·have fi : (((i : Nat) : Int) = ((i : Nat) : Int)) = True := by simp
     rcases hcs with h3 | ⟨h3, h4⟩ | ⟨h3, h4, h5⟩ | ⟨h3, h4, h5, h6⟩ | ⟨h3, h4, h5, h6⟩
     ·have f1 : (((D : Nat) : Int) = ((i : Nat) : Int)) = False := by simp; omega
      simp (maxSteps := 2000000) (disch := first | omega | rfl | assumption) only [↓Z0, ↓Xp, ↓Xt, Xq, Xc, Naf, Naa, Nat.reduceAdd, Nat.reduceMul, Nat.reduceLT, Nat.reduceEqDiff, reduceIte, Xm, Nat.reduceLeDiff, Xa, Xn, unP, Nag, Nah, Nai, g0, g1, g2, g7, g8, g9, f1]
      exact ⟨D, rfl, by omega, hkeep⟩
     ·have f1 : (((D : Nat) : Int) = ((i : Nat) : Int)) = True := by simp; omega
      have f2 : (((c.toNat : Nat) : Int) ≥ ((48 : Nat) : Int)) = False := by simp; omega
      simp (maxSteps := 2000000) (disch := first | omega | rfl | assumption) only [↓Z0, ↓Xp, ↓Xt, Xq, Xc, Naf, Naa, Nat.reduceAdd, Nat.reduceMul, Nat.reduceLT, Nat.reduceEqDiff, reduceIte, Xm, Nat.reduceLeDiff, Xa, Xn, unP, Nag, Nah, Nai, g0, g1, g2, g7, g8, g9, f1, f2]
      exact ⟨D, rfl, by omega, hkeep⟩
     ·have f1 : (((D : Nat) : Int) = ((i : Nat) : Int)) = True := by simp; omega
      have f2 : (((c.toNat : Nat) : Int) ≥ ((48 : Nat) : Int)) = True := by simp; omega
      have f3 : (((c.toNat : Nat) : Int) ≤ ((57 : Nat) : Int)) = False := by simp; omega
      simp (maxSteps := 2000000) (disch := first | omega | rfl | assumption) only [↓Z0, ↓Xp, ↓Xt, Xq, Xc, Naf, Naa, Nat.reduceAdd, Nat.reduceMul, Nat.reduceLT, Nat.reduceEqDiff, reduceIte, Xm, Nat.reduceLeDiff, Xa, Xn, unP, Nag, Nah, Nai, g0, g1, g2, g7, g8, g9, f1, f2, f3]
      exact ⟨D, rfl, by omega, hkeep⟩
     ·have f1 : (((D : Nat) : Int) = ((i : Nat) : Int)) = True := by simp; omega
      have f2 : (((c.toNat : Nat) : Int) ≥ ((48 : Nat) : Int)) = True := by simp; omega
      have f3 : (((c.toNat : Nat) : Int) ≤ ((57 : Nat) : Int)) = True := by simp; omega
      have f4 : (((i : Nat) : Int) < ((18 : Nat) : Int)) = False := by simp; omega
      simp (maxSteps := 2000000) (disch := first | omega | rfl | assumption) only [↓Z0, ↓Xp, ↓Xt, Xq, Xc, Naf, Naa, Nat.reduceAdd, Nat.reduceMul, Nat.reduceLT, Nat.reduceEqDiff, reduceIte, Xm, Nat.reduceLeDiff, Xa, Xn, unP, Nag, Nah, Nai, g0, g1, g2, g7, g8, g9, f1, f2, f3, f4]
      exact ⟨D, rfl, by omega, hkeep⟩
     ·have f1 : (((D : Nat) : Int) = ((i : Nat) : Int)) = True := by simp; omega
      have f2 : (((c.toNat : Nat) : Int) ≥ ((48 : Nat) : Int)) = True := by simp; omega
      have f3 : (((c.toNat : Nat) : Int) ≤ ((57 : Nat) : Int)) = True := by simp; omega
      have f4 : (((i : Nat) : Int) < ((18 : Nat) : Int)) = True := by simp; omega
      simp (maxSteps := 2000000) (disch := first | omega | rfl | assumption) only [↓Z0, ↓Xp, ↓Xt, Xq, Xc, Naf, Naa, Nat.reduceAdd, Nat.reduceMul, Nat.reduceLT, Nat.reduceEqDiff, reduceIte, Xm, Nat.reduceLeDiff, Xa, Xn, unP, Nag, Nah, Nai, g0, g1, g2, g7, g8, g9, f1, f2, f3, f4, eD]
      refine ⟨D + 1, rfl, by omega, ?_⟩
      rw [hsn, List.take_of_length_le (by rw [List.length_append, hrl]; simp; omega)]
      intro c' hc'
      rcases List.mem_append.1 hc' with hq | hq
      ·exact hD c' (by rw [List.take_of_length_le (by omega)]; exact hq)
      ·rw [List.mem_singleton.1 hq, hdg]
       exact ⟨h4, h5⟩
    rintro ⟨env, ⟨sto', cnt'⟩⟩ ⟨g0, g1, g2, g7, g9, g10, ⟨D', g8, hD1, hD2⟩, rfl, hcn⟩
    simp only at g0 g1 g2 g7 g9 g10 g8 hcn
    (try rw [Z0])
    (try simp (maxSteps := 2000000) (disch := first | omega | rfl | assumption) only [↓Xp, ↓Xt, Xq, Xc, Naf, Naa, Nat.reduceAdd, Nat.reduceMul, Nat.reduceLT, Nat.reduceEqDiff, reduceIte, Xa, Xn, unP, Nag, Nah, Nai, Xm, Nat.reduceLeDiff, List.nil_append, List.cons_append, Njk, g7, g10])
    refine NiF (NkI Ni8 Njf Nja (fuel := 198) (hB.cnt (by simp only; omega)) (by simp only; omega) (by rw [hrl]; unfold maxBytes; omega)) ?_
    rintro v ⟨sto1, cnt1⟩ ⟨hU, hK⟩
    have hc1 := hK.c
    simp only at hc1
    simp (maxSteps := 2000000) (disch := first | omega | rfl | assumption) only [↓Z0, ↓Xp, ↓Xt, Xq, Xc, Naf, Naa, Nat.reduceAdd, Nat.reduceMul, Nat.reduceLT, Nat.reduceEqDiff, reduceIte, Xm, Nat.reduceLeDiff, Xa, Xn, unP, Nag, Nah, Nai, g0, g1, g2, g7, g8, g9, eW]
    refine ⟨40 - (i + 1), by omega, i + 1, D', rfl, by omega, by omega, rfl, rfl, hD1, hD2, ?_⟩
    rw [hsn]
    exact .inr (hU.cnt (by simp only; omega))
   ·have h2' : (((i : Nat) : Int) < ((40 : Nat) : Int)) = False := by simp; omega
    simp (maxSteps := 2000000) (disch := first | omega | rfl | assumption) only [↓Z0, ↓Xp, ↓Xt, Xq, Xc, Naf, Naa, Nat.reduceAdd, Nat.reduceMul, Nat.reduceLT, Nat.reduceEqDiff, reduceIte, Xm, Nat.reduceLeDiff, Xa, Xn, unP, Nag, Nah, Nai, g0, g1, g2, g7, g8, g9, h1', h2']
    have : i = 40 := by omega
    subst this
    exact ⟨D, rfl, by rw [NcH, List.length_take]; omega, hD, hB.cnt (by simp only; omega)⟩
  ·have h1' : (((i : Nat) : Int) < ((l.length : Nat) : Int)) = False := by simp; omega
   simp (maxSteps := 2000000) (disch := first | omega | rfl | assumption) only [↓Z0, ↓Xp, ↓Xt, Xq, Xc, Naf, Naa, Nat.reduceAdd, Nat.reduceMul, Nat.reduceLT, Nat.reduceEqDiff, reduceIte, Xm, Nat.reduceLeDiff, Xa, Xn, unP, Nag, Nah, Nai, g0, g1, g2, g7, g8, g9, h1']
   have e : l.take 40 = l.take i := by rw [List.take_of_length_le (by omega), List.take_of_length_le (by omega)]
   rw [e]
   exact ⟨D, rfl, by rw [NcH, List.length_take]; omega, hD, hB.cnt (by simp only; omega)⟩
 rintro ⟨env, ⟨sto, cnt⟩⟩ ⟨g1, g2, g7, D, g8, hDl, hD, hB, hc⟩
 simp only at g1 g2 g7 g8 hB hc
 have hal : alnum (runT (l.take 40)) := NfA _
 have hrl : (runT (l.take 40)).length ≤ 40 := by rw [NcH, List.length_take]; omega
 generalize runT (l.take 40) = run at hDl hD hB hal hrl
 have aw : ∀ st key, Nal (Nao cfgN (Na2 cfgN 200) 7) false st key [] = some (.b true, st) := fun st key => Nan rfl (by rw [Nav Nje]; rfl) rfl
 (try rw [Z0])
 (try simp (maxSteps := 2000000) (disch := first | omega | rfl | assumption) only [↓Xp, ↓Xt, Xq, Xc, Naf, Naa, Nat.reduceAdd, Nat.reduceMul, Nat.reduceLT, Nat.reduceEqDiff, reduceIte, Xa, Xn, unP, Nag, Nah, Nai, Xm, Nat.reduceLeDiff, List.nil_append, List.cons_append, Nji, g1, g2, g7, g8])
 refine NiF (NjI Ni9 (fuel := 199) (hB.cnt (by simp only; omega)) (by simp only; omega) (by unfold maxBytes; omega)) ?_
 rintro v ⟨sto1, cnt1⟩ ⟨rfl, hK⟩
 clear hK hB hc
 have b1 : NaD (some (.i .i64 (D : Int))) 0 run.length = some D := by
  simp only [NaD]; rw [if_pos (by omega)]; rfl
 have tk : List.take (run.length - D) (List.drop D run) = List.drop D run := List.take_of_length_le (by rw [List.length_drop]; omega)
 (try rw [Z0])
 (try simp (maxSteps := 2000000) (disch := first | omega | rfl | assumption) only [↓Xp, ↓Xt, Xq, Xc, Naf, Naa, Nat.reduceAdd, Nat.reduceMul, Nat.reduceLT, Nat.reduceEqDiff, reduceIte, Xa, Xn, unP, Nag, Nah, Nai, Xm, Nat.reduceLeDiff, List.nil_append, List.cons_append, g1, g2, g7, g8, b1, tk])
 (try rw [Z0])
 (try simp (maxSteps := 2000000) (disch := first | omega | rfl | assumption) only [↓Xp, ↓Xt, Xq, Xc, Naf, Naa, Nat.reduceAdd, Nat.reduceMul, Nat.reduceLT, Nat.reduceEqDiff, reduceIte, Xa, Xn, unP, Nag, Nah, Nai, Xm, Nat.reduceLeDiff, List.nil_append, List.cons_append, g1, g2, g7, g8, b1, tk])
 refine WC.mono (Q := fun e y => e = .nrm ∧ (y.env.get 1 = .i .i64 wh ∧ y.env.get 2 = .i .u8 ch ∧ y.env.get 8 = .i .i64 (D : Int) ∧ y.env.get 11 = .s run)) ?_ ?_
 ·cases he : List.drop D run with
  | nil =>
    have q1 : (([] : List UInt8) == []) = true := rfl
    simp (maxSteps := 2000000) (disch := first | omega | rfl | assumption) only [↓Z0, ↓Xp, ↓Xt, Xq, Xc, Naf, Naa, Nat.reduceAdd, Nat.reduceMul, Nat.reduceLT, Nat.reduceEqDiff, reduceIte, Xm, Nat.reduceLeDiff, Xa, Xn, unP, Nag, Nah, Nai, g1, g2, g7, g8, q1, Bool.not_true, Bool.not_false]
  | cons c r =>
    have q1 : ((c :: r) == []) = false := rfl
    have q2 : ((c :: r)[0]?) = some c := rfl
    have hcc := hal.drop D
    rw [he] at hcc
    have hdg := NdP c
    rcases hcc.head with h3 | h4
    ·obtain ⟨h5, h6⟩ : 48 ≤ c.toNat ∧ c.toNat ≤ 57 := by rw [← hdg]; exact h3
     have f1 : (((c.toNat : Nat) : Int) < ((48 : Nat) : Int)) = False := by simp; omega
     have f2 : (((c.toNat : Nat) : Int) > ((57 : Nat) : Int)) = False := by simp; omega
     simp (maxSteps := 2000000) (disch := first | omega | rfl | assumption) only [↓Z0, ↓Xp, ↓Xt, Xq, Xc, Naf, Naa, Nat.reduceAdd, Nat.reduceMul, Nat.reduceLT, Nat.reduceEqDiff, reduceIte, Xm, Nat.reduceLeDiff, Xa, Xn, unP, Nag, Nah, Nai, g1, g2, g7, g8, q1, q2, f1, f2, Bool.not_true, Bool.not_false]
    ·have h5 : c.toNat < 48 ∨ 57 < c.toNat := by
      have : ¬ (48 ≤ c.toNat ∧ c.toNat ≤ 57) := by rw [← hdg]; omega
      omega
     obtain ⟨K, line, hK, hnx⟩ := Nga he h4 hal hrl hDl
     have nx : ∀ st key, Nal (Nao cfgN (Na2 cfgN 200) 9) false st key [.s run, .i .i64 (D : Int)] = some (.tup [.agg [.i .u8 K, .s (c :: r), .i .i64 0, .i .i64 line, .i .i64 (D : Int), .i .i64 ((run.length : Nat) : Int)], .agg [.i .i64 0, .i .i64 0]], st) := fun st key =>
      Nan rfl (by rw [Nav Nf0, hnx]; rfl) rfl
     have hee : ∀ x : Int, (x == x) = true := fun x => beq_self_eq_true x
     have heb : ∀ x : List UInt8, (x == x) = true := fun x => beq_self_eq_true x
     have f3 : (((c.toNat : Nat) : Int) < ((48 : Nat) : Int)) = False ∧ (((c.toNat : Nat) : Int) > ((57 : Nat) : Int)) = True ∨ (((c.toNat : Nat) : Int) < ((48 : Nat) : Int)) = True := by
      rcases h5 with h | h
      ·exact .inr (by simp; omega)
      ·exact .inl ⟨by simp; omega, by simp; omega⟩
     rcases f3 with ⟨f1, f2⟩ | f1 <;> rcases hK with rfl | rfl
     ·simp (maxSteps := 2000000) (disch := first | omega | rfl | assumption) only [↓Z0, ↓Xp, ↓Xt, Xq, Xc, Naf, Naa, Nat.reduceAdd, Nat.reduceMul, Nat.reduceLT, Nat.reduceEqDiff, reduceIte, Xm, Nat.reduceLeDiff, Xa, Xn, unP, Nag, Nah, Nai, g1, g2, g7, g8, q1, q2, f1, f2, nx, hee, heb, Bool.not_true, Bool.not_false]
     ·simp (maxSteps := 2000000) (disch := first | omega | rfl | assumption) only [↓Z0, ↓Xp, ↓Xt, Xq, Xc, Naf, Naa, Nat.reduceAdd, Nat.reduceMul, Nat.reduceLT, Nat.reduceEqDiff, reduceIte, Xm, Nat.reduceLeDiff, Xa, Xn, unP, Nag, Nah, Nai, g1, g2, g7, g8, q1, q2, f1, f2, nx, hee, heb, Bool.not_true, Bool.not_false]
     ·simp (maxSteps := 2000000) (disch := first | omega | rfl | assumption) only [↓Z0, ↓Xp, ↓Xt, Xq, Xc, Naf, Naa, Nat.reduceAdd, Nat.reduceMul, Nat.reduceLT, Nat.reduceEqDiff, reduceIte, Xm, Nat.reduceLeDiff, Xa, Xn, unP, Nag, Nah, Nai, g1, g2, g7, g8, q1, q2, f1, nx, hee, heb, Bool.not_true, Bool.not_false]
     ·simp (maxSteps := 2000000) (disch := first | omega | rfl | assumption) only [↓Z0, ↓Xp, ↓Xt, Xq, Xc, Naf, Naa, Nat.reduceAdd, Nat.reduceMul, Nat.reduceLT, Nat.reduceEqDiff, reduceIte, Xm, Nat.reduceLeDiff, Xa, Xn, unP, Nag, Nah, Nai, g1, g2, g7, g8, q1, q2, f1, nx, hee, heb, Bool.not_true, Bool.not_false]
 clear g1 g2 g7 g8 b1 tk
 rintro _ ⟨env, ⟨sto, cnt⟩⟩ ⟨rfl, g1, g2, g8, g11⟩
 simp only at g1 g2 g8 g11
 rw [NiH]
 refine Za (fun y => y.env.get 1 = .i .i64 wh ∧ y.env.get 2 = .i .u8 ch) ?_ ?_
 ·by_cases h0 : 0 < D
  ·have f1 : (((D : Nat) : Int) > ((0 : Nat) : Int)) = True := by simp; omega
   rcases Ng2 h0 hDl hD hrl with ⟨line, hnx⟩ | ⟨n, line, e, hnx, he1, he2⟩
   ·have nx : ∀ st key, Nal (Nao cfgN (Na2 cfgN 200) 9) false st key [.s run, .i .i64 ((0 : Nat) : Int)] = some (.tup [.agg [.i .u8 0, .s [], .i .i64 0, .i .i64 0, .i .i64 0, .i .i64 0], .agg [.i .i64 100, .i .i64 line]], st) := fun st key =>
     Nan rfl (by rw [Nav Nf0, hnx]; rfl) rfl
    simp (maxSteps := 2000000) (disch := first | omega | rfl | assumption) only [↓Z0, ↓Xp, ↓Xt, Xq, Xc, Naf, Naa, Nat.reduceAdd, Nat.reduceMul, Nat.reduceLT, Nat.reduceEqDiff, reduceIte, Xm, Nat.reduceLeDiff, Xa, Xn, unP, Nag, Nah, Nai, g1, g2, g8, g11, f1, nx]
   ·have nx : ∀ st key, Nal (Nao cfgN (Na2 cfgN 200) 9) false st key [.s run, .i .i64 ((0 : Nat) : Int)] = some (.tup [.agg [.i .u8 1, .s [], .i .i64 n, .i .i64 line, .i .i64 ((0 : Nat) : Int), .i .i64 ((e : Nat) : Int)], .agg [.i .i64 0, .i .i64 0]], st) := fun st key =>
     Nan rfl (by rw [Nav Nf0, hnx]; rfl) rfl
    have f2 : (((e : Nat) : Int) < ((D : Nat) : Int)) = False := by simp; omega
    have hee : ∀ x : Int, (x == x) = true := fun x => beq_self_eq_true x
    simp (maxSteps := 2000000) (disch := first | omega | rfl | assumption) only [↓Z0, ↓Xp, ↓Xt, Xq, Xc, Naf, Naa, Nat.reduceAdd, Nat.reduceMul, Nat.reduceLT, Nat.reduceEqDiff, reduceIte, Xm, Nat.reduceLeDiff, Xa, Xn, unP, Nag, Nah, Nai, g1, g2, g8, g11, f1, f2, nx, hee, Bool.not_true, Bool.not_false]
  ·have f1 : (((D : Nat) : Int) > ((0 : Nat) : Int)) = False := by simp; omega
   simp (maxSteps := 2000000) (disch := first | omega | rfl | assumption) only [↓Z0, ↓Xp, ↓Xt, Xq, Xc, Naf, Naa, Nat.reduceAdd, Nat.reduceMul, Nat.reduceLT, Nat.reduceEqDiff, reduceIte, Xm, Nat.reduceLeDiff, Xa, Xn, unP, Nag, Nah, Nai, g1, g2, g8, g11, f1]
 clear g1 g2 g8 g11
 rintro ⟨env, ⟨sto, cnt⟩⟩ ⟨g1, g2⟩
 simp only at g1 g2
 have hfd : Nao cfgN (Na2 cfgN 200) 11 [.s [97, 99, 113, 117, 105, 114, 101, 32, 97, 100, 100, 32, 97, 114, 114, 105, 118, 101, 32, 98, 97, 114, 114, 105, 101, 114, 32, 98, 114, 111, 97, 100, 99, 97, 115, 116, 32, 99, 111, 110, 100, 32, 100, 111, 32, 100, 111, 110, 101, 32, 101, 108, 115, 101, 32, 105, 102, 32, 108, 111, 99, 107, 32, 108, 111, 99, 107, 102, 111, 114, 32, 108, 111, 111, 112, 32, 109, 117, 116, 101, 120, 32, 111, 110, 99, 101, 32, 112, 117, 116, 32, 113, 117, 101, 117, 101, 32, 114, 101, 97, 100, 32, 114, 101, 108, 101, 97, 115, 101, 32, 114, 108, 111, 99, 107, 32, 114, 117, 110, 108, 111, 99, 107, 32, 114, 119, 108, 111, 99, 107, 32, 115, 101, 109, 32, 115, 101, 116, 32, 115, 105, 103, 110, 97, 108, 32, 116, 97, 107, 101, 32, 116, 104, 114, 101, 97, 100, 32, 116, 114, 121, 97, 99, 113, 117, 105, 114, 101, 32, 116, 114, 121, 108, 111, 99, 107, 32, 117, 110, 108, 111, 99, 107, 32, 118, 97, 114, 32, 119, 97, 105, 116, 32, 119, 97, 105, 116, 102, 111, 114, 32, 119, 97, 105, 116, 111, 110, 32, 119, 108, 111, 99, 107, 32, 119, 114, 105, 116, 101, 32, 119, 117, 110, 108, 111, 99, 107]] = some (.osl 1 37 (txW keysT)) := by
  rw [Nav Njg]
  show (if keysB = keysB then some (PV.osl 1 37 (txW keysT)) else none) = _
  rw [if_pos rfl]
 have hcF : ∀ st key, Nal (Nao cfgN (Na2 cfgN 200) 11) false st key [.s [97, 99, 113, 117, 105, 114, 101, 32, 97, 100, 100, 32, 97, 114, 114, 105, 118, 101, 32, 98, 97, 114, 114, 105, 101, 114, 32, 98, 114, 111, 97, 100, 99, 97, 115, 116, 32, 99, 111, 110, 100, 32, 100, 111, 32, 100, 111, 110, 101, 32, 101, 108, 115, 101, 32, 105, 102, 32, 108, 111, 99, 107, 32, 108, 111, 99, 107, 102, 111, 114, 32, 108, 111, 111, 112, 32, 109, 117, 116, 101, 120, 32, 111, 110, 99, 101, 32, 112, 117, 116, 32, 113, 117, 101, 117, 101, 32, 114, 101, 97, 100, 32, 114, 101, 108, 101, 97, 115, 101, 32, 114, 108, 111, 99, 107, 32, 114, 117, 110, 108, 111, 99, 107, 32, 114, 119, 108, 111, 99, 107, 32, 115, 101, 109, 32, 115, 101, 116, 32, 115, 105, 103, 110, 97, 108, 32, 116, 97, 107, 101, 32, 116, 104, 114, 101, 97, 100, 32, 116, 114, 121, 97, 99, 113, 117, 105, 114, 101, 32, 116, 114, 121, 108, 111, 99, 107, 32, 117, 110, 108, 111, 99, 107, 32, 118, 97, 114, 32, 119, 97, 105, 116, 32, 119, 97, 105, 116, 102, 111, 114, 32, 119, 97, 105, 116, 111, 110, 32, 119, 108, 111, 99, 107, 32, 119, 114, 105, 116, 101, 32, 119, 117, 110, 108, 111, 99, 107]] = some (.rsl key 1 0 37, st.put key (some (.cells (txW keysT) false))) := fun st key => by
  simp only [Nal, hfd, show ∀ l, Nbq st [.s l] = some [.s l] from fun _ => rfl, show PV.closedB (.osl 1 37 (txW keysT)) = true from rfl, if_true, NaC]
 obtain ⟨q, rfl⟩ : ∃ q : Nat, ch = q := ⟨ch.toNat, by omega⟩
 have hpl := Nhd (x := wh) (n := ((37 : Nat) : Int)) (by omega)
 obtain ⟨j, hj⟩ : ∃ j : Nat, Ndc wh ((37 : Nat) : Int) = j := ⟨(Ndc wh ((37 : Nat) : Int)).toNat, by omega⟩
 rw [hj] at hpl
 have hj37 : j < 37 := by omega
 have hpk : ∀ st key, Nal (Nao cfgN (Na2 cfgN 200) 12) false st key [.i .i64 wh, .i .i64 ((37 : Nat) : Int)] = some (.i .i64 (j : Int), st) := fun st key =>
  Nan rfl (by rw [Nav Njh]; show (if -9223372036854775808 ≤ ((37 : Nat) : Int) ∧ ((37 : Nat) : Int) < 9223372036854775808 then some (PV.i .i64 (Ndc wh ((37 : Nat) : Int))) else none) = _; rw [if_pos (by omega), hj]) rfl
 obtain ⟨hk1, hk2⟩ := Nid j hj37
 have hwat := NjJ hj37
 generalize keysT.getD j [] = k at hk1 hk2 hwat
 obtain ⟨c, d, r, hkk, hlc, hld, hlr', hlen⟩ : ∃ c d r, k = c :: d :: r ∧ Nb0 c = true ∧ Nb0 d = true ∧ r.all Nb0 = true ∧ r.length ≤ 12 := by
  unfold Njo at hk1
  split at hk1
  ·rename_i c d r
   simp only [Bool.and_eq_true, decide_eq_true_eq] at hk1
   exact ⟨c, d, r, rfl, hk1.1.1.1, hk1.1.1.2, hk1.1.2, hk1.2⟩
  ·cases hk1
 have hnr : alnum r := fun x hx => .inr (NaV (List.all_eq_true.1 hlr' x hx)).1
 have hcd : alnum (d :: r) := fun x hx => by
  rcases List.mem_cons.1 hx with rfl | hx
  ·exact .inr (NaV hld).1
  ·exact hnr x hx
 have hck : alnum (c :: d :: r) := fun x hx => by
  rcases List.mem_cons.1 hx with rfl | hx
  ·exact .inr (NaV hlc).1
  ·exact hcd x hx
 have hI : ∀ st key, Nal (Nao cfgN (Na2 cfgN 200) 13) false st key [.s k, .i .i64 ((0 : Nat) : Int), .agg [.i .u8 ((3 : Nat) : Int), .s k, .i .i64 ((0 : Nat) : Int), .i .i64 ((1 : Nat) : Int), .i .i64 ((0 : Nat) : Int), .i .i64 (k.length : Int)]] = some (.b true, st) := fun st key => by
  have h := Nf2 (NaV hlc).1 hck (by simp only [List.length_cons]; omega)
  rw [← hkk, if_pos hk2] at h
  exact NbX rfl rfl (by rw [Nav Nhn]; exact h) rfl
 have ht37 : (txW keysT).length = 37 := by decide +kernel
 have hj1 : (1 ≤ 37 - j) = True := by simp; omega
 have hkl : k.length = r.length + 2 := by rw [hkk]; simp
 (try rw [Z0])
 (try simp (maxSteps := 2000000) (disch := first | omega | rfl | assumption) only [↓Xp, ↓Xt, Xq, Xc, Naf, Naa, Nat.reduceAdd, Nat.reduceMul, Nat.reduceLT, Nat.reduceEqDiff, reduceIte, Xa, Xn, unP, Nag, Nah, Nai, Xm, Nat.reduceLeDiff, List.nil_append, List.cons_append, g1, g2, hcF, hpk, hwat, ht37, hj1, hI, List.length_drop])
 refine Za (fun y => y.env.get 2 = .i .u8 (q : Int) ∧ y.env.get 18 = .s k ∧ ∃ K, y.env.get 17 = .rsl K 1 0 37 ∧ y.st.get K = some (.cells (txW keysT) false)) ?_ ?_
 ·simp (maxSteps := 2000000) (disch := first | omega | rfl | assumption) only [↓Z0, ↓Xp, ↓Xt, Xq, Xc, Naf, Naa, Nat.reduceAdd, Nat.reduceMul, Nat.reduceLT, Nat.reduceEqDiff, reduceIte, Xm, Nat.reduceLeDiff, Xa, Xn, unP, Nag, Nah, Nai, g1, g2, hcF, hpk, hwat, ht37, hj1, hI, List.length_drop, Bool.not_true]
  exact ⟨cnt, rfl, by rw [Ngv, St.get_putk]⟩
 clear g1 g2 hfd hcF hpk hwat
 rintro ⟨env, ⟨sto, cnt⟩⟩ ⟨g2, g18, K, g17, fK⟩
 simp only at g2 g18 g17
 refine Za (fun y => y.env.get 2 = .i .u8 (q : Int) ∧ y.env.get 18 = .s k ∧ y.env.get 17 = .rsl K 1 0 37 ∧ y.st.get K = some (.cells (txW keysT) false)) ?_ ?_
 ·simp (maxSteps := 2000000) (disch := first | omega | rfl | assumption) only [↓Z0, ↓Xp, ↓Xt, Xq, Xc, Naf, Naa, Nat.reduceAdd, Nat.reduceMul, Nat.reduceLT, Nat.reduceEqDiff, reduceIte, Xm, Nat.reduceLeDiff, Xa, Xn, unP, Nag, Nah, Nai, g2, g17, g18, hI, Bool.not_true]
  exact fK
 clear g2 g18 g17 fK
 rintro ⟨env, ⟨sto, cnt⟩⟩ ⟨g2, g18, g17, fK⟩
 simp only at g2 g18 g17
 replace fK : ∀ n', St.get ⟨sto, n'⟩ K = some (.cells (txW keysT) false) := fun _ => fK
 refine Za (fun y => y.env.get 17 = .rsl K 1 0 37 ∧ y.st.get K = some (.cells (txW keysT) false) ∧ ∃ c' r', y.env.get 19 = .s (c' :: r') ∧ cls c' = 4 ∧ alnum (c' :: r') ∧ r'.length ≤ 20) ?_ ?_
 ·have hc3 : q % 3 = 0 ∨ q % 3 = 1 ∨ q % 3 = 2 := by omega
  have z3 : (((3 : Nat) : Int) = 0) = False := by simp
  have l1 : (k.length + 1 < 9223372036854775807) = True := by rw [hkl]; simp; omega
  have e3 : (q : Int).tmod ((3 : Nat) : Int) = ((q % 3 : Nat) : Int) := by rw [Int.ofNat_tmod]
  have d1 : List.drop 1 k = d :: r := by rw [hkk]; rfl
  have t1 : List.take 1 k = [c] := by rw [hkk]; rfl
  have t2 : List.take (k.length - 1) (d :: r) = d :: r := List.take_of_length_le (by rw [hkl]; simp)
  have b1 : NaD (some (.i .i64 ((1 : Nat) : Int))) 0 k.length = some 1 := by
   simp only [NaD]; rw [if_pos (by omega)]; rfl
  have b2 : NaD (some (.i .i64 ((1 : Nat) : Int))) k.length k.length = some 1 := by
   simp only [NaD]; rw [if_pos (by omega)]; rfl
  have hup : Nao cfgN (Na2 cfgN 200) 14 [.s [c]] = some (.s [UInt8.ofNat (c.toNat - 32)]) := by
   rw [Nav Njj]
   show (if 97 ≤ c.toNat ∧ c.toNat < 123 then some (PV.s [UInt8.ofNat (c.toNat - 32)]) else none) = _
   unfold Nb0 at hlc
   simp only [Bool.and_eq_true, decide_eq_true_eq] at hlc
   rw [if_pos hlc]
  have dq : ∀ st a, Nbq st [.s a] = some [.s a] := fun _ _ => rfl
  have cb : ∀ l, PV.closedB (.s l) = true := fun _ => rfl
  have rb : ∀ (st : St) (key : Nat) l, NaC st key (.s l) = some (.s l, st) := fun _ _ _ => rfl
  have l2 : ∀ x : UInt8, ([x].length + (d :: r).length < 9223372036854775807) = True := fun x => by simp only [List.length_cons, List.length_nil, eq_iff_iff, iff_true]; omega
  have h115 : cls 115 = 4 := by decide
  rcases hc3 with h | h | h <;> rw [h] at e3
  ·simp (maxSteps := 2000000) (disch := first | omega | rfl | assumption) only [↓Z0, ↓Xp, ↓Xt, Xq, Xc, Naf, Naa, Nat.reduceAdd, Nat.reduceMul, Nat.reduceLT, Nat.reduceEqDiff, reduceIte, Xm, Nat.reduceLeDiff, Xa, Xn, unP, Nag, Nah, Nai, g2, g17, g18, l1, l2, e3, d1, t1, t2, b1, b2, z3, hup, dq, cb, rb]
   refine ⟨fK _, c, d :: r ++ [115], by rw [hkk]; rfl, (NaV hlc).1, ?_, by simp; omega⟩
   intro x hx
   rcases List.mem_append.1 (show x ∈ (c :: d :: r) ++ [115] from hx) with hx | hx
   ·exact hck x hx
   ·rw [List.mem_singleton.1 hx]; exact .inr h115
  ·simp (maxSteps := 2000000) (disch := first | omega | rfl | assumption) only [↓Z0, ↓Xp, ↓Xt, Xq, Xc, Naf, Naa, Nat.reduceAdd, Nat.reduceMul, Nat.reduceLT, Nat.reduceEqDiff, reduceIte, Xm, Nat.reduceLeDiff, Xa, Xn, unP, Nag, Nah, Nai, g2, g17, g18, l1, l2, e3, d1, t1, t2, b1, b2, z3, hup, dq, cb, rb]
   exact ⟨fK _, d, r, rfl, (NaV hld).1, hcd, by omega⟩
  ·simp (maxSteps := 2000000) (disch := first | omega | rfl | assumption) only [↓Z0, ↓Xp, ↓Xt, Xq, Xc, Naf, Naa, Nat.reduceAdd, Nat.reduceMul, Nat.reduceLT, Nat.reduceEqDiff, reduceIte, Xm, Nat.reduceLeDiff, Xa, Xn, unP, Nag, Nah, Nai, g2, g17, g18, l1, l2, e3, d1, t1, t2, b1, b2, z3, hup, dq, cb, rb]
   refine ⟨fK _, _, d :: r, rfl, (NaV hlc).2, ?_, by simp; omega⟩
   intro x hx
   rcases List.mem_cons.1 hx with rfl | hx
   ·exact .inr (NaV hlc).2
   ·exact hcd x hx
 clear g2 g17 g18 fK hI hkl hk2 hck hcd hnr hlr' hlen hkk
 rintro ⟨env, ⟨sto, cnt⟩⟩ ⟨g17, fK, c', r', g19, h4, hal', hl'⟩
 simp only at g17 g19
 replace fK : ∀ n', St.get ⟨sto, n'⟩ K = some (.cells (txW keysT) false) := fun _ => fK
 obtain ⟨o, ho⟩ : ∃ o, c' :: r' = o := ⟨_, rfl⟩
 have hol : o.length ≤ 21 := by rw [← ho, List.length_cons]; omega
 have h32 : 32 ∉ o := by
  intro hx
  rw [← ho] at hx
  have := hal' 32 hx
  revert this
  decide
 have hnm := Nf2 h4 hal' (by rw [ho]; omega)
 rw [ho, Njp o h32] at hnm
 rw [ho] at g19
 have hkey : NjX o = keysT.any (· == o) := by rw [Nf3]; rfl
 (try rw [Z0])
 (try simp (maxSteps := 2000000) (disch := first | omega | rfl | assumption) only [↓Xp, ↓Xt, Xq, Xc, Naf, Naa, Nat.reduceAdd, Nat.reduceMul, Nat.reduceLT, Nat.reduceEqDiff, reduceIte, Xa, Xn, unP, Nag, Nah, Nai, Xm, Nat.reduceLeDiff, List.nil_append, List.cons_append, g17, g19])
 refine Za (fun y => y.env.get 19 = .s o ∧ y.env.get 20 = .i .u8 (if NjX o then 3 else 2)) ?_ ?_
 ·rw [hkey]
  have hany : ∀ i, i < 37 → ((keysT.take (i + 1)).any (· == o)) = ((keysT.take i).any (· == o) || keysT.getD i [] == o) := fun i hi => by
   have hx : i < keysT.length := by rw [NbZ]; exact hi
   rw [List.take_succ_eq_append_getElem hx, List.any_append]
   simp only [List.any_cons, List.any_nil, Bool.or_false, List.getD, List.getElem?_eq_getElem hx, Option.getD_some]
  (try rw [Z0])
  (try simp (maxSteps := 2000000) (disch := first | omega | rfl | assumption) only [↓Xp, ↓Xt, Xq, Xc, Naf, Naa, Nat.reduceAdd, Nat.reduceMul, Nat.reduceLT, Nat.reduceEqDiff, reduceIte, Xa, Xn, unP, Nag, Nah, Nai, Xm, Nat.reduceLeDiff, List.nil_append, List.cons_append, g17, g19])
  refine Z9 (k := 37 - 0) (fun e y => ∃ i : Nat, e = 37 - i ∧ i ≤ 37 ∧ y.env.get 19 = .s o ∧ y.env.get 20 = .i .u8 (if (keysT.take i).any (· == o) then 3 else 2) ∧ y.env.get 163 = .rsl K 1 0 37 ∧ y.env.get 164 = .i .i64 ((37 : Nat) : Int) ∧ y.env.get 165 = .i .i64 (i : Int) ∧ y.st.get K = some (.cells (txW keysT) false)) ?_ ⟨0, rfl, by omega, by simp [Env.get_put, g19], by simp [Env.get_put], by simp [Env.get_put], by simp [Env.get_put], by simp [Env.get_put], fK _⟩ (by omega)
  rintro e ⟨env, ⟨sto, cnt⟩⟩ ⟨i, rfl, hi, g19, g20, g163, g164, g165, fK⟩
  simp only at g19 g20 g163 g164 g165
  replace fK : ∀ n', St.get ⟨sto, n'⟩ K = some (.cells (txW keysT) false) := fun _ => fK
  by_cases h1 : i < 37
  ·have h1' : (((i : Nat) : Int) < ((37 : Nat) : Int)) = True := by simp; omega
   have hw1 := NjJ h1
   have hj1 : (1 ≤ 37 - i) = True := by simp; omega
   have hn1 := hany i h1
   have eW : IntKind.i64.wrap (((i + 1 : Nat)) : Int) = ((i + 1 : Nat) : Int) := NaM _ ⟨by omega, by omega⟩
   generalize keysT.getD i [] = x at hw1 hn1
   cases hx : x == o
   ·rw [hx, Bool.or_false] at hn1
    simp (maxSteps := 2000000) (disch := first | omega | rfl | assumption) only [↓Z0, ↓Xp, ↓Xt, Xq, Xc, Naf, Naa, Nat.reduceAdd, Nat.reduceMul, Nat.reduceLT, Nat.reduceEqDiff, reduceIte, Xm, Nat.reduceLeDiff, Xa, Xn, unP, Nag, Nah, Nai, g19, g20, g163, g164, g165, fK, h1', hw1, hj1, ht37, hx, List.length_drop, eW]
    exact ⟨37 - (i + 1), by omega, i + 1, rfl, by omega, by rw [hn1], rfl⟩
   ·rw [hx, Bool.or_true] at hn1
    simp (maxSteps := 2000000) (disch := first | omega | rfl | assumption) only [↓Z0, ↓Xp, ↓Xt, Xq, Xc, Naf, Naa, Nat.reduceAdd, Nat.reduceMul, Nat.reduceLT, Nat.reduceEqDiff, reduceIte, Xm, Nat.reduceLeDiff, Xa, Xn, unP, Nag, Nah, Nai, g19, g20, g163, g164, g165, fK, h1', hw1, hj1, ht37, hx, List.length_drop, eW]
    exact ⟨37 - (i + 1), by omega, i + 1, rfl, by omega, by rw [hn1]; rfl, rfl⟩
  ·have h1' : (((i : Nat) : Int) < ((37 : Nat) : Int)) = False := by simp; omega
   have : i = 37 := by omega
   subst this
   rw [show keysT.take 37 = keysT from List.take_of_length_le (by rw [NbZ]; exact Nat.le_refl _)] at g20
   simp (maxSteps := 2000000) (disch := first | omega | rfl | assumption) only [↓Z0, ↓Xp, ↓Xt, Xq, Xc, Naf, Naa, Nat.reduceAdd, Nat.reduceMul, Nat.reduceLT, Nat.reduceEqDiff, reduceIte, Xm, Nat.reduceLeDiff, Xa, Xn, unP, Nag, Nah, Nai, g19, g20, g163, g164, g165, h1']
 rintro ⟨env, ⟨sto, cnt⟩⟩ ⟨g19, g20⟩
 simp only at g19 g20
 have hI : ∀ st key, Nal (Nao cfgN (Na2 cfgN 200) 13) false st key [.s o, .i .i64 ((0 : Nat) : Int), .agg [.i .u8 (if NjX o then 3 else 2), .s o, .i .i64 ((0 : Nat) : Int), .i .i64 ((1 : Nat) : Int), .i .i64 ((0 : Nat) : Int), .i .i64 (o.length : Int)]] = some (.b true, st) := fun st key =>
  NbX rfl rfl (by rw [Nav Nhn]; exact hnm) rfl
 (try rw [Z0])
 (try simp (maxSteps := 2000000) (disch := first | omega | rfl | assumption) only [↓Xp, ↓Xt, Xq, Xc, Naf, Naa, Nat.reduceAdd, Nat.reduceMul, Nat.reduceLT, Nat.reduceEqDiff, reduceIte, Xa, Xn, unP, Nag, Nah, Nai, Xm, Nat.reduceLeDiff, List.nil_append, List.cons_append, g19, g20, hI, aw])
 refine ⟨nofun, _, rfl, ?_⟩
 simp only [Ndv, ↓Z0, ↓Xp, ↓Xt, Xq, Xc, Naf, Naa, Nat.reduceAdd, Nat.reduceMul, Nat.reduceLT, Nat.reduceEqDiff, reduceIte]
 rfl
theorem Nhp : ∀ {n : Nat} {ps : List PV}, ps.length = n * 1 → (∀ j, j < n → (Sh.i .u8).Is ((ps.drop (j * 1)).take 1)) → ∃ l : List UInt8, ps = Nau l ∧ l.length = n
 | 0, ps, hl, _ => ⟨[], by have : ps = [] := List.length_eq_zero_iff.1 (by omega)
                           rw [this]; rfl, rfl⟩
 | n + 1, ps, hl, h => by
   obtain ⟨x, h1, h2⟩ := h 0 (by omega)
   obtain ⟨l, q1, q2⟩ := Nhp (n := n) (ps := ps.drop 1) (by rw [List.length_drop]; omega) (fun j hj => by
    have := h (j + 1) (by omega)
    rw [List.drop_drop, show 1 + j * 1 = (j + 1) * 1 by omega]
    exact this)
   have hu : 0 ≤ x ∧ x < 256 := by
    simp [Lit.wf, IntKind.min, IntKind.max, IntKind.signed, IntKind.bits] at h2
    omega
   refine ⟨UInt8.ofNat x.toNat :: l, ?_, by simp [q2]⟩
   have h3 : (((UInt8.ofNat x.toNat).toNat : Nat) : Int) = x := by
    rw [UInt8.toNat_ofNat']; omega
   show ps = .i .u8 ((UInt8.ofNat x.toNat).toNat : Int) :: Nau l
   rw [h3, ← q1]
   have : ps = ps.take 1 ++ ps.drop 1 := (List.take_append_drop 1 ps).symm
   rw [Nat.zero_mul, List.drop_zero] at h1
   rw [this, h1]
   rfl
theorem Nf7 (n : Nat) (ps : List PV) (hl : ps.length = n * (Sh.i .u8).width) (hn : n ≤ reachBytes) (h : ∀ j, j < n → (Sh.i .u8).Is ((ps.drop (j * (Sh.i .u8).width)).take (Sh.i .u8).width)) (wh : Int) (h1 : (Lit.int .i64 wh).wf = true) (ch : Int) (h2 : (Lit.int .u8 ch).wf = true) : ∃ fuel, evP cfgN fuel 4 [.fsl n ps, .i .i64 wh, .i .u8 ch] = some (.b true) := by
 obtain ⟨l, rfl, rfl⟩ := Nhp hl h
 refine Nf8 hn ?_ ?_
 ·simp [Lit.wf, IntKind.min, IntKind.max, IntKind.signed, IntKind.bits] at h2
  omega
 ·simp [Lit.wf, IntKind.min, IntKind.max, IntKind.signed, IntKind.bits] at h1
  omega
end Go.Pe
