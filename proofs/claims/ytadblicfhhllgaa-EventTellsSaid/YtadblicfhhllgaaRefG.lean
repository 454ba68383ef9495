/-
 The document's answer for layer 3: a frame read, by the interpreter of plain data. No condition.
-/
import Derived.Test.YtadblicfhhllgaaRefF
import Derived.Test.YtadblicfhhllgaaEvtM
set_option linter.unusedVariables false
set_option linter.unusedSimpArgs false
set_option maxHeartbeats 16000000
set_option maxRecDepth 100000
namespace Go.Pe
open Go Go.Am Go.RowKit

def gRFrame : List PV → Option PV
 | [v] => match Nhl v with
   | some l => if l.length ≤ 140737488355327 then some (Nce l) else none
   | none => none
 | _ => none
theorem NiP (args : List PV) (r : PV) (h : gRFrame args = some r) : ∃ fuel, evP cfgR7 fuel 21 args = some r := by
 unfold gRFrame at h
 split at h
 ·split at h
  ·rename_i l hl
   split at h
   ·rename_i hc
    simp only [Sj] at h
    subst h
    exact ⟨4100 + 1, Nby (by kernel_rfl) (NfG hl) (Njc (cfg := cfgR7) (by kernel_rfl) (by kernel_rfl) (by kernel_rfl) (by kernel_rfl) (Ndj hl) hc (Nat.le_refl _))⟩
   ·simp at h
  ·simp at h
 ·simp at h
theorem NlX {cfg : Cfg} {callE : CallE} (hx : cfg.ext 20 = some gRGet) {w : PV} {L : List UInt8} (hw : inL w = some L) (hl : L.length ≤ 140737488355327) (a : Int) (X : Ev) : Naj cfg callE 20 [w, .i .i64 a, .agg (evC X)] = some (Nlf (NbO L a X)) := by
 rw [Nac hx]
 have h2 := X.O.toNat_lt
 have h3 : ((X.O.toNat : Int).toNat).toUInt8 = X.O := by
  rw [Int.toNat_natCast, Nat.toUInt8]
  exact UInt8.toNat_inj.1 (by rw [UInt8.toNat_ofNat']; omega)
 unfold gRGet evC
 simp only [hw]
 rw [if_pos ⟨by omega, by omega, hl⟩, h3]
theorem NmC {m r : List UInt8} (hr : m.length + 4 ≤ r.length) (hm : r.take m.length = m) : NaE m = r.take (m.length + 4) ↔ ∀ j, j < 4 → (NaE m).getD (m.length + j) 0 = r.getD (m.length + j) 0 := by
 have hs := Ndv m
 constructor
 ·intro h j hj
  rw [h]
  simp [List.getD_eq_getElem?_getD, List.getElem?_take, show m.length + j < m.length + 4 by omega]
 ·intro h
  apply List.ext_getElem?
  intro i
  by_cases h1 : i < m.length
  ·have e1 : (NaE m)[i]? = m[i]? := by unfold NaE; rw [List.getElem?_append_left h1]
   rw [e1, List.getElem?_take, if_pos (by omega)]
   have := congrArg (fun s : List UInt8 => s[i]?) hm
   simp only [List.getElem?_take, if_pos h1] at this
   exact this.symm
  ·by_cases h2 : i < m.length + 4
   ·have h3 := h (i - m.length) (by omega)
    rw [show m.length + (i - m.length) = i by omega] at h3
    rw [List.getElem?_take, if_pos h2]
    simp only [List.getD_eq_getElem?_getD, List.getElem?_eq_getElem (show i < (NaE m).length by omega), List.getElem?_eq_getElem (show i < r.length by omega), Option.getD_some] at h3 ⊢
    rw [h3]
   ·rw [List.getElem?_eq_none (by omega), List.getElem?_eq_none (by rw [List.length_take]; omega)]
theorem Nln {cfg : Cfg} (hf : cfg.fn 22 = some m22) (hx1 : cfg.ext 41 = some NdT) (hx2 : cfg.ext 38 = some NeL) (hx3 : cfg.ext 20 = some gRGet) {v : PV} {l : List UInt8} (hv : inL v = some l) (hl : l.length ≤ 140737488355000) {at0 : Int} {fuel : Nat} (hfu : 4100 ≤ fuel) :
 ∃ r st', NaH cfg (fuel + 1) 22 [v, .i .i64 at0] { sto := .leaf, cnt := 1 } = some (r, st') ∧ Nav st' r = some (NeW l at0) := by
 refine NaD hf ?_
 unfold m22
 have hlen := Nbx hv
 have hlt := Nc9 l at0
 have hok := @NdD l at0
 have cu : ∀ (w : PV) (L : List UInt8), inL w = some L → L.length ≤ 140737488355000 → ∀ (st : St) (key : Nat) (a : Int), Nae (Naj cfg (NaH cfg fuel) 41) false st key [w, .i .i64 a] = some (.tup [.i .u64 ((Nbn L a).1 : Int), .i .i64 (Nbn L a).2.1, .i .i64 (Nbn L a).2.2], st) := by
  intro w L hw hL st key a
  refine Nap (by simp only [List.all_cons, NbB hw, List.all_nil, Bool.and_self, Bool.true_and]; rfl) ?_ rfl
  rw [Nac hx1]
  unfold NdT
  simp only [hw]
  rw [if_pos (by omega)]
  rfl
 have c1 := fun st key => cu v l hv hl st key at0
 unfold NeW Nj5
 simp only []
 generalize Nbn l at0 = p at *
 refine Za (fun x => x.env.get 0 = v ∧ x.env.get 1 = .i .i64 at0) ?_ ?_
 ·simp (disch := first | omega | rfl | assumption) only [↓Z0, ↓Xp, ↓Xt, Xq, Xc, Nad, Naa, Nat.reduceAdd, Nat.reduceMul, Nat.reduceLT, Nat.reduceEqDiff, reduceIte, Xm, Nat.reduceLeDiff, Xa, Xn, Nag]
  (repeat' (first | exact True.intro | rfl | assumption | omega | apply And.intro | exact St.get_putk _ _ _ | refine ⟨_, rfl, ?_⟩))
 rintro ⟨env, ⟨sto, c⟩⟩ ⟨g0, g1⟩
 simp only at g0 g1
 refine Za (fun x => x.env.get 0 = v ∧ x.env.get 1 = .i .i64 at0 ∧ x.env.get 7 = .i .u64 (p.1 : Int) ∧ x.env.get 8 = .i .i64 p.2.1 ∧ x.env.get 9 = .i .i64 p.2.2) ?_ ?_
 ·simp (disch := first | omega | rfl | assumption) only [↓Z0, ↓Xp, ↓Xt, Xq, Xc, Nad, Naa, Nat.reduceAdd, Nat.reduceMul, Nat.reduceLT, Nat.reduceEqDiff, reduceIte, Xm, Nat.reduceLeDiff, Xa, Xn, g0, g1, c1]
  (repeat' (first | exact True.intro | rfl | assumption | omega | apply And.intro | exact St.get_putk _ _ _ | refine ⟨_, rfl, ?_⟩))
 clear g0 g1
 rintro ⟨env, ⟨sto, c⟩⟩ ⟨g0, g1, g7, g8, g9⟩
 simp only at g0 g1 g7 g8 g9
 by_cases h1 : p.2.2 ≠ 0
 ·rw [if_pos h1]
  simp (disch := first | omega | rfl | assumption) only [↓Z0, ↓Xp, ↓Xt, Xq, Xc, Nad, Naa, Nat.reduceAdd, Nat.reduceMul, Nat.reduceLT, Nat.reduceEqDiff, reduceIte, Xm, Nat.reduceLeDiff, Xa, Xn, g0, g1, g7, g8, g9]
  refine ⟨nofun, _, rfl, ?_⟩
  simp only [NaX, ↓Z0, ↓Xp, ↓Xt, Xq, Xc, Nad, Naa, Nat.reduceAdd, Nat.reduceMul, Nat.reduceLT, Nat.reduceEqDiff, reduceIte]
  exact Nak rfl
 have h1' : p.2.2 = 0 := by simpa using h1
 rw [if_neg h1]
 refine Za (fun x => x.env.get 0 = v ∧ x.env.get 1 = .i .i64 at0 ∧ x.env.get 7 = .i .u64 (p.1 : Int) ∧ x.env.get 8 = .i .i64 p.2.1 ∧ x.env.get 9 = .i .i64 p.2.2) ?_ ?_
 ·simp (disch := first | omega | rfl | assumption) only [↓Z0, ↓Xp, ↓Xt, Xq, Xc, Nad, Naa, Nat.reduceAdd, Nat.reduceMul, Nat.reduceLT, Nat.reduceEqDiff, reduceIte, Xm, Nat.reduceLeDiff, Xa, Xn, g0, g1, g7, g8, g9]
  (repeat' (first | exact True.intro | rfl | assumption | omega | apply And.intro | exact St.get_putk _ _ _ | refine ⟨_, rfl, ?_⟩))
 clear g0 g1 g7 g8 g9
 rintro ⟨env, ⟨sto, c⟩⟩ ⟨g0, g1, g7, g8, g9⟩
 simp only at g0 g1 g7 g8 g9
 by_cases h2 : 262144 < p.1
 ·rw [if_pos h2]
  simp (disch := first | omega | rfl | assumption) only [↓Z0, ↓Xp, ↓Xt, Xq, Xc, Nad, Naa, Nat.reduceAdd, Nat.reduceMul, Nat.reduceLT, Nat.reduceEqDiff, reduceIte, Xm, Nat.reduceLeDiff, Xa, Xn, g0, g1, g7, g8, g9]
  refine ⟨nofun, _, rfl, ?_⟩
  simp only [NaX, ↓Z0, ↓Xp, ↓Xt, Xq, Xc, Nad, Naa, Nat.reduceAdd, Nat.reduceMul, Nat.reduceLT, Nat.reduceEqDiff, reduceIte]
  exact Nak rfl
 rw [if_neg h2]
 refine Za (fun x => x.env.get 0 = v ∧ x.env.get 1 = .i .i64 at0 ∧ x.env.get 7 = .i .u64 (p.1 : Int) ∧ x.env.get 8 = .i .i64 p.2.1 ∧ x.env.get 9 = .i .i64 p.2.2) ?_ ?_
 ·simp (disch := first | omega | rfl | assumption) only [↓Z0, ↓Xp, ↓Xt, Xq, Xc, Nad, Naa, Nat.reduceAdd, Nat.reduceMul, Nat.reduceLT, Nat.reduceEqDiff, reduceIte, Xm, Nat.reduceLeDiff, Xa, Xn, g0, g1, g7, g8, g9]
  (repeat' (first | exact True.intro | rfl | assumption | omega | apply And.intro | exact St.get_putk _ _ _ | refine ⟨_, rfl, ?_⟩))
 clear g0 g1 g7 g8 g9
 rintro ⟨env, ⟨sto, c⟩⟩ ⟨g0, g1, g7, g8, g9⟩
 simp only at g0 g1 g7 g8 g9
 obtain ⟨ha0, hal, rest, hrest, hnx, hnl⟩ := hok h1'
 obtain ⟨k, hk⟩ : ∃ k : Nat, p.2.1 = k := ⟨p.2.1.toNat, by omega⟩
 rw [hk] at g8 ⊢
 have hkl : k ≤ l.length := by omega
 by_cases h3 : (l.length : Int) - (k : Int) < p.1 + 4
 ·rw [if_pos h3]
  simp (disch := first | omega | rfl | assumption) only [↓Z0, ↓Xp, ↓Xt, Xq, Xc, Nad, Naa, Nat.reduceAdd, Nat.reduceMul, Nat.reduceLT, Nat.reduceEqDiff, reduceIte, Xm, Nat.reduceLeDiff, Xa, Xn, g0, g1, g7, g8, g9, hlen]
  refine ⟨nofun, _, rfl, ?_⟩
  simp only [NaX, ↓Z0, ↓Xp, ↓Xt, Xq, Xc, Nad, Naa, Nat.reduceAdd, Nat.reduceMul, Nat.reduceLT, Nat.reduceEqDiff, reduceIte]
  exact Nak rfl
 rw [if_neg h3]
 refine Za (fun x => x.env.get 0 = v ∧ x.env.get 1 = .i .i64 at0 ∧ x.env.get 7 = .i .u64 (p.1 : Int) ∧ x.env.get 8 = .i .i64 (k : Int) ∧ x.env.get 9 = .i .i64 p.2.2) ?_ ?_
 ·simp (disch := first | omega | rfl | assumption) only [↓Z0, ↓Xp, ↓Xt, Xq, Xc, Nad, Naa, Nat.reduceAdd, Nat.reduceMul, Nat.reduceLT, Nat.reduceEqDiff, reduceIte, Xm, Nat.reduceLeDiff, Xa, Xn, g0, g1, g7, g8, g9, hlen]
  (repeat' (first | exact True.intro | rfl | assumption | omega | apply And.intro | exact St.get_putk _ _ _ | refine ⟨_, rfl, ?_⟩))
 clear g0 g1 g7 g8 g9
 rintro ⟨env, ⟨sto, c⟩⟩ ⟨g0, g1, g7, g8, g9⟩
 simp only at g0 g1 g7 g8 g9
 have hne : l ≠ [] := by intro e; rw [e] at hkl h3; simp at hkl h3; omega
 rw [Int.toNat_natCast]
 obtain ⟨n, hn⟩ : ∃ n, p.1 = n := ⟨_, rfl⟩
 rw [hn] at g7 h2 h3 ⊢
 clear hnx hrest hlt hok hn
 obtain ⟨m, hm⟩ : ∃ m, (l.drop k).take n = m := ⟨_, rfl⟩
 have hmid := Nl6 hv (a := k) (n := n) (by omega) hne
 have hml : m.length = n := by rw [← hm, List.length_take, List.length_drop]; omega
 rw [hm] at hmid ⊢
 have hmi : inL (.fsl n (Nab m)) = some m := by rw [← hml]; exact Nbv m
 have hsl := Ndv m
 have hoksl : ∀ x, Go.Am.crc x = Go.Am.crc x := fun _ => rfl
 refine Za (fun x => x.env.get 0 = v ∧ x.env.get 1 = .i .i64 at0 ∧ x.env.get 7 = .i .u64 (n : Int) ∧ x.env.get 8 = .i .i64 (k : Int) ∧ x.env.get 9 = .i .i64 p.2.2 ∧ x.env.get 10 = .fsl n (Nab m)) ?_ ?_
 ·simp (disch := first | omega | rfl | assumption) only [↓Z0, ↓Xp, ↓Xt, Xq, Xc, Nad, Naa, Nat.reduceAdd, Nat.reduceMul, Nat.reduceLT, Nat.reduceEqDiff, reduceIte, Xm, Nat.reduceLeDiff, Xa, Xn, g0, g1, g7, g8, g9, hmid]
  (repeat' (first | exact True.intro | rfl | assumption | omega | apply And.intro | exact St.get_putk _ _ _ | refine ⟨_, rfl, ?_⟩))
 clear g0 g1 g7 g8 g9
 rintro ⟨env, ⟨sto, c⟩⟩ ⟨g0, g1, g7, g8, g9, g10⟩
 simp only at g0 g1 g7 g8 g9 g10
 -- the seal
 refine Za (fun x => ∃ q, x.env.get 0 = v ∧ x.env.get 7 = .i .u64 (n : Int) ∧ x.env.get 8 = .i .i64 (k : Int) ∧ x.env.get 10 = .fsl n (Nab m) ∧ x.env.get 11 = .rsl q 1 0 (NaE m).length ∧ x.st.get q = some (.cells (Nab (NaE m)) false) ∧ q < x.st.cnt) ?_ ?_
 ·simp (disch := first | omega | rfl | assumption) only [↓Z0, ↓Xp, ↓Xt, Xq, Xc, Nad, Naa, Nat.reduceAdd, Nat.reduceMul, Nat.reduceLT, Nat.reduceEqDiff, reduceIte, Xm, Nat.reduceLeDiff, Xa, Xn, g0, g1, g7, g8, g9, g10]
  refine Ncq (L := NaE m) (Neq (Nlk _ _ _)) ?_ (by first | omega | (simp only [Z0L_, NcW, Nat.add_assoc, Nat.reduceAdd]; omega) | (simp only; omega)) ?_
  ·rw [Nac hx2]
   unfold NeL
   simp only [hmi]
   rw [if_pos (by omega)]
  intro st1 o1 k1 c1 f1
  exact ⟨_, rfl, k1, o1.lt _ (by simp [keyOf])⟩
 clear g0 g1 g7 g8 g9 g10
 rintro ⟨env, ⟨sto, c⟩⟩ ⟨q, g0, g7, g8, g10, g11, kq, hq⟩
 simp only at g0 g7 g8 g10 g11 kq hq
 replace kq : ∀ n, St.get ⟨sto, n⟩ q = some (.cells (Nab (NaE m)) false) := fun _ => kq
 have hvc := Nbp hv hne
 have hkt : (k : Int) + (n : Int) + 4 = ((k + n + 4 : Nat) : Int) := by omega
 have hdrl : n + 4 ≤ (l.drop k).length := by rw [List.length_drop]; omega
 have hsi := NmC (m := m) (r := l.drop k) (by omega) (by rw [hml, hm])
 rw [hml] at hsi
 have hgd : ∀ j, (l.drop k).getD (n + j) 0 = l.getD (k + (n + j)) 0 := by
  intro j
  simp [List.getD_eq_getElem?_getD, List.getElem?_drop, Nat.add_assoc]
 have hlm : NeU (.fsl n (Nab m)) = some (.i .i64 (n : Int)) := rfl
 refine NfJ (fun x => NaE m = (l.drop k).take (n + 4) ∧ x.env.get 8 = .i .i64 (k : Int) ∧ x.env.get 10 = .fsl n (Nab m) ∧ x.env.get 11 = .rsl q 1 0 (NaE m).length) ?_ ?_
 ·rw [Z0]
  simp (disch := first | omega | rfl | assumption) only [↓Xp, ↓Xt, Xq, Xc, Nad, Naa, Nat.reduceAdd, Nat.reduceMul, Nat.reduceLT, Nat.reduceEqDiff, reduceIte, g0, g7, g8, g10, g11, kq]
  refine Z9 (k := 4 - 0) (fun d x => ∃ (i : Nat), i ≤ 4 ∧ d = 4 - i ∧ (∀ j, j < i → (NaE m).getD (n + j) 0 = l.getD (k + (n + j)) 0) ∧ x.env.get 0 = v ∧ x.env.get 8 = .i .i64 (k : Int) ∧ x.env.get 10 = .fsl n (Nab m) ∧ x.env.get 11 = .rsl q 1 0 (NaE m).length ∧ x.env.get 12 = .i .i64 (i : Int) ∧ x.st.get q = some (.cells (Nab (NaE m)) false)) ?_ ?_ (by omega)
  ·skip
   clear g0 g7 g8 g10 g11 kq hq
   rintro d ⟨env, ⟨sto, c⟩⟩ ⟨i, hi, rfl, hj, g0, g8, g10, g11, g12, kq⟩
   simp only at g0 g8 g10 g11 g12 kq
   replace kq : ∀ n, St.get ⟨sto, n⟩ q = some (.cells (Nab (NaE m)) false) := fun _ => kq
   by_cases h4 : i < 4
   ·have hb1 := fun n' => NeF (kq n') (show n + i < (NaE m).length by omega)
    have hb2 := fun st => Ncn (st := st) (l := l) (show k + (n + i) < l.length by omega)
    have hlb := Nah l
    simp only [Nat.zero_add, Nat.mul_one] at hb1 hb2
    rw [hvc] at g0
    by_cases hee : (NaE m).getD (n + i) 0 = l.getD (k + (n + i)) 0
    ·have hbe : (((NaE m).getD (n + i) 0).toNat : Int) = ((l.getD (k + (n + i)) 0).toNat : Int) := by rw [hee]
     simp (disch := first | omega | rfl | assumption) only [↓Z0, ↓Xp, ↓Xt, Xq, Xc, Nad, Naa, Nat.reduceAdd, Nat.reduceMul, Nat.reduceLT, Nat.reduceEqDiff, reduceIte, Xl, Nat.reduceLeDiff, Xa, Xn, g0, g8, g10, g11, g12, kq, hlm, hb1, hb2, hlb]
     refine ⟨4 - (i + 1), by omega, i + 1, by omega, rfl, ?_, by rw [hvc], rfl⟩
     intro j hj'
     rcases Nat.lt_or_ge j i with h | h
     ·exact hj j h
     ·rw [show j = i by omega]; exact hee
    ·have hbe : ¬ (((NaE m).getD (n + i) 0).toNat : Int) = ((l.getD (k + (n + i)) 0).toNat : Int) := by
      intro h
      exact hee (UInt8.toNat_inj.1 (by omega))
     have hno : ¬ NaE m = (l.drop k).take (n + 4) := fun h => hee (by rw [hsi.1 h i h4, hgd])
     rw [if_neg hno]
     simp (disch := first | omega | rfl | assumption) only [↓Z0, ↓Xp, ↓Xt, Xq, Xc, Nad, Naa, Nat.reduceAdd, Nat.reduceMul, Nat.reduceLT, Nat.reduceEqDiff, reduceIte, Xl, Nat.reduceLeDiff, Xa, Xn, g0, g8, g10, g11, g12, kq, hlm, hb1, hb2, hlb]
     refine ⟨nofun, _, rfl, ?_⟩
     simp only [NaX, ↓Z0, ↓Xp, ↓Xt, Xq, Xc, Nad, Naa, Nat.reduceAdd, Nat.reduceMul, Nat.reduceLT, Nat.reduceEqDiff, reduceIte]
     exact Nak rfl
   ·have hi' : i = 4 := by omega
    subst hi'
    simp (disch := first | omega | rfl | assumption) only [↓Z0, ↓Xp, ↓Xt, Xq, Xc, Nad, Naa, Nat.reduceAdd, Nat.reduceMul, Nat.reduceLT, Nat.reduceEqDiff, reduceIte, Xa, Xn, g0, g8, g10, g11, g12, kq]
    exact hsi.2 fun j hj' => by rw [hgd]; exact hj j hj'
  ·refine ⟨0, by omega, rfl, fun j hj => by omega, ?_⟩
   simp (disch := first | omega | rfl | assumption) only [↓Z0, ↓Xp, ↓Xt, Xq, Xc, Nad, Naa, Nat.reduceAdd, Nat.reduceMul, Nat.reduceLT, Nat.reduceEqDiff, reduceIte, g0, g8, g10, g11, kq, NbT]
 clear g0 g7 g8 g10 g11 kq
 rintro ⟨env, ⟨sto, c⟩⟩ ⟨hseal, g8, g10, g11⟩
 simp only at g8 g10 g11
 rw [if_pos hseal]
 have cm := cu (.fsl n (Nab m)) m hmi (by omega)
 have hmok := @NdD m 0
 have c0 := fun st key => cm st key ((0 : Nat) : Int)
 have hE : ∀ E, Nct m = E → Nct m = E := fun _ h => h
 unfold Nct
 obtain ⟨p2, hp2⟩ : ∃ p2, Nbn m 0 = p2 := ⟨_, rfl⟩
 have hp2' : Nbn m ((0 : Nat) : Int) = p2 := hp2
 simp only [hp2'] at c0
 simp only [hp2] at hmok ⊢
 clear hp2 hp2' cm hE hsi hgd hseal hdrl hmid h3 hkt
 refine Za (fun x => x.env.get 8 = .i .i64 (k : Int) ∧ x.env.get 10 = .fsl n (Nab m) ∧ x.env.get 11 = .rsl q 1 0 (NaE m).length ∧ x.env.get 13 = .i .u64 (p2.1 : Int) ∧ x.env.get 14 = .i .i64 p2.2.1 ∧ x.env.get 9 = .i .i64 p2.2.2) ?_ ?_
 ·simp (disch := first | omega | rfl | assumption) only [↓Z0, ↓Xp, ↓Xt, Xq, Xc, Nad, Naa, Nat.reduceAdd, Nat.reduceMul, Nat.reduceLT, Nat.reduceEqDiff, reduceIte, Xm, Nat.reduceLeDiff, Xa, Xn, g8, g10, g11, c0]
  (repeat' (first | exact True.intro | rfl | assumption | omega | apply And.intro | exact St.get_putk _ _ _ | refine ⟨_, rfl, ?_⟩))
 clear g8 g10 g11
 rintro ⟨env, ⟨sto, c⟩⟩ ⟨g8, g10, g11, g13, g14, g9⟩
 simp only at g8 g10 g11 g13 g14 g9
 by_cases h5 : p2.2.2 ≠ 0 ∨ p2.1 < 1 ∨ 4096 < p2.1
 ·rw [if_neg (by omega)]
  have hfin : WC cfg (NaH cfg fuel) (fuel + 1) MCode.skip ⟨env, ⟨sto, c⟩⟩ (fun _ _ => True) → True := fun _ => trivial
  rcases Classical.em (p2.2.2 = 0) with he | he
  ·rcases Classical.em (p2.1 < 1) with h6 | h6
   ·simp (disch := first | omega | rfl | assumption) only [↓Z0, ↓Xp, ↓Xt, Xq, Xc, Nad, Naa, Nat.reduceAdd, Nat.reduceMul, Nat.reduceLT, Nat.reduceEqDiff, reduceIte, Xm, Nat.reduceLeDiff, Xa, Xn, g8, g10, g11, g13, g14, g9]
    refine ⟨nofun, _, rfl, ?_⟩
    simp only [NaX, ↓Z0, ↓Xp, ↓Xt, Xq, Xc, Nad, Naa, Nat.reduceAdd, Nat.reduceMul, Nat.reduceLT, Nat.reduceEqDiff, reduceIte]
    exact Nak rfl
   ·simp (disch := first | omega | rfl | assumption) only [↓Z0, ↓Xp, ↓Xt, Xq, Xc, Nad, Naa, Nat.reduceAdd, Nat.reduceMul, Nat.reduceLT, Nat.reduceEqDiff, reduceIte, Xm, Nat.reduceLeDiff, Xa, Xn, g8, g10, g11, g13, g14, g9]
    refine ⟨nofun, _, rfl, ?_⟩
    simp only [NaX, ↓Z0, ↓Xp, ↓Xt, Xq, Xc, Nad, Naa, Nat.reduceAdd, Nat.reduceMul, Nat.reduceLT, Nat.reduceEqDiff, reduceIte]
    exact Nak rfl
  ·simp (disch := first | omega | rfl | assumption) only [↓Z0, ↓Xp, ↓Xt, Xq, Xc, Nad, Naa, Nat.reduceAdd, Nat.reduceMul, Nat.reduceLT, Nat.reduceEqDiff, reduceIte, Xm, Nat.reduceLeDiff, Xa, Xn, g8, g10, g11, g13, g14, g9]
   refine ⟨nofun, _, rfl, ?_⟩
   simp only [NaX, ↓Z0, ↓Xp, ↓Xt, Xq, Xc, Nad, Naa, Nat.reduceAdd, Nat.reduceMul, Nat.reduceLT, Nat.reduceEqDiff, reduceIte]
   exact Nak rfl
 rw [if_pos (by omega)]
 obtain ⟨_, _, _, _, hq1, hq2⟩ := hmok (by omega)
 refine Za (fun x => x.env.get 8 = .i .i64 (k : Int) ∧ x.env.get 10 = .fsl n (Nab m) ∧ x.env.get 11 = .rsl q 1 0 (NaE m).length ∧ x.env.get 13 = .i .u64 (p2.1 : Int) ∧ x.env.get 14 = .i .i64 p2.2.1 ∧ x.env.get 9 = .i .i64 p2.2.2) ?_ ?_
 ·simp (disch := first | omega | rfl | assumption) only [↓Z0, ↓Xp, ↓Xt, Xq, Xc, Nad, Naa, Nat.reduceAdd, Nat.reduceMul, Nat.reduceLT, Nat.reduceEqDiff, reduceIte, Xm, Nat.reduceLeDiff, Xa, Xn, g8, g10, g11, g13, g14, g9]
  (repeat' (first | exact True.intro | rfl | assumption | omega | apply And.intro | exact St.get_putk _ _ _ | refine ⟨_, rfl, ?_⟩))
 clear g8 g10 g11 g13 g14 g9
 rintro ⟨env, ⟨sto, c⟩⟩ ⟨g8, g10, g11, g13, g14, g9⟩
 simp only at g8 g10 g11 g13 g14 g9
 refine Za (fun x => x.env.get 8 = .i .i64 (k : Int) ∧ x.env.get 10 = .fsl n (Nab m) ∧ x.env.get 11 = .rsl q 1 0 (NaE m).length ∧ x.env.get 13 = .i .u64 (p2.1 : Int) ∧ x.env.get 14 = .i .i64 p2.2.1 ∧ x.env.get 9 = .i .i64 p2.2.2 ∧ x.env.get 15 = .nsl) ?_ ?_
 ·simp (disch := first | omega | rfl | assumption) only [↓Z0, ↓Xp, ↓Xt, Xq, Xc, Nad, Naa, Nat.reduceAdd, Nat.reduceMul, Nat.reduceLT, Nat.reduceEqDiff, reduceIte, Xm, Nat.reduceLeDiff, Xa, Xn, g8, g10, g11, g13, g14, g9]
  (repeat' (first | exact True.intro | rfl | assumption | omega | apply And.intro | exact St.get_putk _ _ _ | refine ⟨_, rfl, ?_⟩))
 clear g8 g10 g11 g13 g14 g9
 rintro ⟨env, ⟨sto, c⟩⟩ ⟨g8, g10, g11, g13, g14, g9, g15⟩
 simp only at g8 g10 g11 g13 g14 g9 g15
 obtain ⟨n2, hn2⟩ : ∃ n2, p2.1 = n2 := ⟨_, rfl⟩
 obtain ⟨a2, ha2⟩ : ∃ a2 : Nat, p2.2.1 = a2 := ⟨p2.2.1.toNat, by omega⟩
 rw [hn2] at g13 ⊢
 rw [ha2] at g14 ⊢
 obtain ⟨Res, hRes⟩ : ∃ R, Ncb m n2 a2 .zero [] = R := ⟨_, rfl⟩
 rw [hRes]
 have hRinv := fun L x (h : Res = some (L, x)) => Nfa n2 (hRes.trans h) (by omega)
 refine Za (fun x => x.env.get 8 = .i .i64 (k : Int) ∧ x.env.get 10 = .fsl n (Nab m) ∧ x.env.get 11 = .rsl q 1 0 (NaE m).length ∧ x.env.get 13 = .i .u64 (n2 : Int) ∧ x.env.get 14 = .i .i64 (a2 : Int) ∧ x.env.get 15 = .nsl ∧ ∃ k16, x.env.get 16 = .ptr k16 0 ∧ x.st.get k16 = some (.cells (evC .zero) false) ∧ k16 < x.st.cnt) ?_ ?_
 ·simp (disch := first | omega | rfl | assumption) only [↓Z0, ↓Xp, ↓Xt, Xq, Xc, Nad, Naa, Nat.reduceAdd, Nat.reduceMul, Nat.reduceLT, Nat.reduceEqDiff, reduceIte, Xm, Nat.reduceLeDiff, Xa, Xn, g8, g10, g11, g13, g14, g9, g15]
  exact ⟨_, rfl, St.get_putk _ _ _, (by first | omega | (simp only [Z0L_, NcW, Nat.add_assoc, Nat.reduceAdd]; omega) | (simp only; omega))⟩
 clear g8 g10 g11 g13 g14 g9 g15
 rintro ⟨env, ⟨sto, c⟩⟩ ⟨g8, g10, g11, g13, g14, g15, k16, g16, kk, hkc⟩
 simp only at g8 g10 g11 g13 g14 g15 g16 kk hkc
 replace kk : ∀ n, St.get ⟨sto, n⟩ k16 = some (.cells (evC .zero) false) := fun _ => kk
 refine NfJ (fun x => ∃ (L : List Ev) (a : Int) (w : PV), Res = some (L, a) ∧ x.env.get 15 = w ∧ x.env.get 14 = .i .i64 a ∧ Own x.st 5 w L.length (Na4 L) ∧ x.env.get 8 = .i .i64 (k : Int) ∧ x.env.get 10 = .fsl n (Nab m) ∧ x.env.get 11 = .rsl q 1 0 (NaE m).length) ?_ ?_
 ·rw [Z0]
  simp (disch := first | omega | rfl | assumption) only [↓Xp, ↓Xt, Xq, Xc, Nad, Naa, Nat.reduceAdd, Nat.reduceMul, Nat.reduceLT, Nat.reduceEqDiff, reduceIte, g8, g10, g11, g13, g14, g15, g16, kk]
  refine Z9 (k := n2 - 0) (fun d x => ∃ (i : Nat) (a : Int) (X : Ev) (acc : List Ev) (w : PV) (k16 : Nat), i ≤ n2 ∧ d = n2 - i ∧ Ncb m (n2 - i) a X acc = Res ∧ acc.length = i ∧ x.env.get 15 = w ∧ x.env.get 14 = .i .i64 a ∧ Own x.st 5 w acc.length (Na4 acc) ∧ x.env.get 8 = .i .i64 (k : Int) ∧ x.env.get 10 = .fsl n (Nab m) ∧ x.env.get 11 = .rsl q 1 0 (NaE m).length ∧ x.env.get 13 = .i .u64 (n2 : Int) ∧ x.env.get 16 = .ptr k16 0 ∧ x.env.get 17 = .i .i64 (i : Int) ∧ x.st.get k16 = some (.cells (evC X) false) ∧ k16 < x.st.cnt ∧ k16 ∉ keyOf w) ?_ ?_ (by omega)
  ·skip
   clear g8 g10 g11 g13 g14 g15 g16 kk hkc
   rintro d ⟨env, ⟨sto, c⟩⟩ ⟨i, a, X, acc, w, k16, hi, rfl, hres, hacc, g15, g14, o15, g8, g10, g11, g13, g16, g17, kk, hkc, hkw⟩
   simp only at g8 g10 g11 g13 g14 g15 g16 g17 kk hkc
   replace kk : ∀ n, St.get ⟨sto, n⟩ k16 = some (.cells (evC X) false) := fun _ => kk
   by_cases hlt : i < n2
   ·have hn : n2 - i = (n2 - (i + 1)) + 1 := by omega
    rw [hn] at hres
    have er : Ncb m (n2 - (i + 1) + 1) a X acc = if (NbO m a X).2.2 = 0 then Ncb m (n2 - (i + 1)) (NbO m a X).2.1 (NbO m a X).1 (acc ++ [(NbO m a X).1]) else none := rfl
    rw [er] at hres
    have cg : ∀ (st : St) (key : Nat), Nae (Naj cfg (NaH cfg fuel) 20) false st key [.fsl n (Nab m), .i .i64 a, .agg (evC X)] = some (.tup [.agg (evC (NbO m a X).1), .i .i64 (NbO m a X).2.1, .i .i64 (NbO m a X).2.2], st) := fun st key => NaP (ps' := [.fsl n (Nab m), .i .i64 a, .agg (evC X)]) rfl (NlX hx3 hmi (by omega) a X) rfl
    generalize NbO m a X = G at cg hres
    obtain ⟨e, nx, er⟩ := G
    simp only at cg hres
    by_cases hok : er = 0
    ·rw [if_pos hok] at hres
     simp (disch := first | omega | rfl | assumption) only [↓Z0, ↓Xp, ↓Xt, Xq, Xc, Nad, Naa, Nat.reduceAdd, Nat.reduceMul, Nat.reduceLT, Nat.reduceEqDiff, reduceIte, Xf, Nat.reduceLeDiff, Xa, Xn, g8, g10, g11, g13, g14, g15, g16, g17, kk, cg, Nbk, Nbl, Nbm, NeY]
     have hwl : ∀ j, j ∈ keyOf w → j < c := fun j hj => o15.lt j hj
     refine Nfv (o15.move (by first | omega | (simp only [Z0L_, NcW, Nat.add_assoc, Nat.reduceAdd]; omega) | (simp only; omega)) (fun j hj hc => by (try simp only at hc); first | rfl | (simp (disch := omega) only [Nde, Nc6]; done) | (simp (disch := omega) only [Nde, Nc6]; rfl))) (by first | omega | (simp only [Z0L_, NcW, Nat.add_assoc, Nat.reduceAdd]; omega) | (simp only; omega)) (fun h => by have := hwl _ h; omega) (by rw [Nee]) (by decide) (by unfold maxBytes; omega) ?_
     intro v' st' ho hc' hk' hg
     have h18 : st'.get (c + 96) = some (.cells (evC e) false) := by
      rw [hg _ (by omega) (fun h => by have := hwl _ h; omega)]
      simp (disch := first | omega | rfl | assumption) only [Xf, Nat.reduceLeDiff]
     have h16 : st'.get k16 = some (.cells (evC X) false) := by
      rw [hg _ (by omega) hkw]
      simp (disch := first | omega | rfl | assumption) only [Xf, Nat.reduceLeDiff, kk]
     simp only [Z0L_, NcW] at hc'
     simp (disch := first | omega | rfl | assumption) only [↓Z0, ↓Xp, ↓Xt, Xq, Xc, Nad, Naa, Nat.reduceAdd, Nat.reduceMul, Nat.reduceLT, Nat.reduceEqDiff, reduceIte, Xf, Nat.reduceLeDiff, Xa, Xn, g8, g10, g11, g13, g14, g15, g16, g17, kk, h18, h16, Nbk, Nbl, Nbm]
     refine ⟨n2 - (i + 1), by omega, i + 1, nx, e, acc ++ [e], v', k16, by omega, rfl, hres, by rw [List.length_append, hacc]; rfl, rfl, rfl, ?_, rfl, rfl, by rw [St.get_putk]; rfl, (by first | omega | (simp only [Z0L_, NcW, Nat.add_assoc, Nat.reduceAdd]; omega) | (simp only; omega)), fun h => by have := hk' _ h; omega⟩
     rw [Nil] at ho
     rw [List.length_append]
     exact ho.move (by first | omega | (simp only [Z0L_, NcW, Nat.add_assoc, Nat.reduceAdd]; omega) | (simp only; omega)) (fun j hj hc => by
      have := hk' _ hj
      simp (disch := omega) only [Nde, Nc6])
    ·rw [if_neg hok] at hres
     subst hres
     simp (disch := first | omega | rfl | assumption) only [↓Z0, ↓Xp, ↓Xt, Xq, Xc, Nad, Naa, Nat.reduceAdd, Nat.reduceMul, Nat.reduceLT, Nat.reduceEqDiff, reduceIte, Xf, Nat.reduceLeDiff, Xa, Xn, g8, g10, g11, g13, g14, g15, g16, g17, kk, cg, Nbk, Nbl, Nbm]
     refine ⟨nofun, _, rfl, ?_⟩
     simp only [NaX, ↓Z0, ↓Xp, ↓Xt, Xq, Xc, Nad, Naa, Nat.reduceAdd, Nat.reduceMul, Nat.reduceLT, Nat.reduceEqDiff, reduceIte]
     exact Nak rfl
   ·have hi' : i = n2 := by omega
    subst hi'
    rw [Nat.sub_self] at hres
    have hres' : some (acc, a) = Res := hres
    simp (disch := first | omega | rfl | assumption) only [↓Z0, ↓Xp, ↓Xt, Xq, Xc, Nad, Naa, Nat.reduceAdd, Nat.reduceMul, Nat.reduceLT, Nat.reduceEqDiff, reduceIte, Xa, Xn, g8, g10, g11, g13, g14, g15, g16, g17, kk]
    exact ⟨acc, a, w, hres'.symm, rfl, rfl, o15.cnt (by omega)⟩
  ·refine ⟨0, a2, .zero, [], .nsl, k16, by omega, rfl, hRes, rfl, ?_⟩
   simp (disch := first | omega | rfl | assumption) only [↓Z0, ↓Xp, ↓Xt, Xq, Xc, Nad, Naa, Nat.reduceAdd, Nat.reduceMul, Nat.reduceLT, Nat.reduceEqDiff, reduceIte, g8, g10, g11, g13, g14, g15, g16, kk, NbT]
   exact ⟨Own.nil _ _, by omega, by simp [keyOf]⟩
 clear g8 g10 g11 g13 g14 g15 g16 kk
 rintro ⟨env, ⟨sto, c⟩⟩ ⟨L, a, w, hR, g15, g14, o15, g8, g10, g11⟩
 simp only at g8 g10 g11 g14 g15
 obtain ⟨r, rest, hLr, hrn, _, hd, ha⟩ := hRinv L a hR
 have hle := Nky hd (by omega)
 rw [hR]
 obtain ⟨a', rfl⟩ : ∃ a' : Nat, a = a' := ⟨a.toNat, by omega⟩
 by_cases h8 : a' < m.length
 ·have hb : (((a' : Nat) : Int) == (m.length : Int)) = false := by simp; omega
  simp only [hb]
  simp (disch := first | omega | rfl | assumption) only [↓Z0, ↓Xp, ↓Xt, Xq, Xc, Nad, Naa, Nat.reduceAdd, Nat.reduceMul, Nat.reduceLT, Nat.reduceEqDiff, reduceIte, Xm, Nat.reduceLeDiff, Xa, Xn, g8, g10, g11, g14, g15, hlm]
  refine ⟨nofun, _, rfl, ?_⟩
  simp only [NaX, ↓Z0, ↓Xp, ↓Xt, Xq, Xc, Nad, Naa, Nat.reduceAdd, Nat.reduceMul, Nat.reduceLT, Nat.reduceEqDiff, reduceIte]
  exact Nak rfl
 ·have hb : (((a' : Nat) : Int) == (m.length : Int)) = true := by simp; omega
  simp only [hb]
  have hlr : ∀ (a b c n : Nat), NeU (.rsl a b c n) = some (.i .i64 n) := fun _ _ _ _ => rfl
  simp (disch := first | omega | rfl | assumption) only [↓Z0, ↓Xp, ↓Xt, Xq, Xc, Nad, Naa, Nat.reduceAdd, Nat.reduceMul, Nat.reduceLT, Nat.reduceEqDiff, reduceIte, Xm, Nat.reduceLeDiff, Xa, Xn, g8, g10, g11, g14, g15, hlm, hlr]
  refine ⟨nofun, _, rfl, ?_⟩
  simp only [NaX, ↓Z0, ↓Xp, ↓Xt, Xq, Xc, Nad, Naa, Nat.reduceAdd, Nat.reduceMul, Nat.reduceLT, Nat.reduceEqDiff, reduceIte]
  have hLn : L.length ≠ 0 := by
   rw [hLr, List.length_append, hrn]
   have : ¬ n2 < 1 := by omega
   omega
  obtain ⟨kq, rfl, hkq, _, _⟩ := o15.obj hLn
  have hz : ((k + (NaE m).length : Nat) : Int) = ((k + n : Nat) : Int) + 4 := by omega
  rw [hz]
  exact Nfb (st := ⟨sto, c + 96⟩) hkq
def gRRead : List PV → Option PV
 | [v, .i .i64 a] => match inL v with
   | some l => if l.length ≤ 140737488355000 then some (NeW l a) else none
   | none => none
 | _ => none
theorem Njv (args : List PV) (r : PV) (h : gRRead args = some r) : ∃ fuel, evP cfgR7 fuel 22 args = some r := by
 unfold gRRead at h
 split at h
 ·split at h
  ·rename_i v a l hl
   split at h
   ·rename_i hc
    simp only [Sj] at h
    subst h
    exact ⟨4100 + 1, Nby (by kernel_rfl) (NaT hl) (Nln (cfg := cfgR7) (by kernel_rfl) (by kernel_rfl) (by kernel_rfl) (by kernel_rfl) hl hc (Nat.le_refl _))⟩
   ·simp at h
  ·simp at h
 ·simp at h
end Go.Pe
