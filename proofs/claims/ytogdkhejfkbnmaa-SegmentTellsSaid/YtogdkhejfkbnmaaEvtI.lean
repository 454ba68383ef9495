/-
 Package low: a place chosen, events held against one another, bytes and events copied. No condition.
-/
import Derived.Test.YtogdkhejfkbnmaaEvtK
import Derived.Test.YtogdkhejfkbnmaaEvtA0
import Derived.Test.YtogdkhejfkbnmaaPe7
set_option linter.unusedVariables false
set_option linter.unusedSimpArgs false
namespace Go.Pe
open Go Go.Am Go.RowKit

def Nf7 : PV → Option (List Ev)
 | .nsl => some []
 | .fsl n cs => match Nhw cs with
   | some l => if n = l.length then some l else none
   | none => none
 | _ => none
theorem Nc8 {v : PV} {l : List Ev} (h : Nf7 v = some l) : NmH v l := by
 unfold Nf7 at h
 split at h
 ·simp only [Sj] at h
  subst h; rfl
 ·split at h
  ·rename_i n cs l' hl
   split at h
   ·rename_i hn
    simp only [Sj] at h
    subst h
    exact ⟨hn, Nj9 _ (Nat.le_refl _) hl⟩
   ·simp at h
  ·simp at h
 ·simp at h
theorem NeG (l : List Ev) : Nf7 (.fsl l.length (Nay l)) = some l := by
 unfold Nf7
 simp only [Ngc, if_true]
theorem Njd {v : PV} {l : List Ev} {rest : List PV} (h : Nf7 v = some l) : NaO (v :: rest) = (v :: rest, { sto := .leaf, cnt := 1 }) := by
 cases v <;> first | rfl | simp [Nf7] at h
theorem Nlp {st : St} {v : PV} {l : List Ev} (h : NmH v l) : cellsOf st 5 v = some (l.length, Nay l) := by
 cases v <;> simp only [NmH] at h
 ·rw [h]; rfl
 ·obtain ⟨rfl, rfl⟩ := h
  unfold cellsOf
  simp only [NaI, if_true]
theorem NjS (l : List Ev) : (Nay l).all PV.one = true := by
 rw [List.all_eq_true]
 intro p hp
 simp only [Nay, List.mem_flatMap] at hp
 obtain ⟨e, _, hp⟩ := hp
 simp only [evC, List.mem_cons, List.not_mem_nil, or_false] at hp
 rcases hp with rfl | rfl | rfl | rfl | rfl <;> rfl
theorem NgS (l : List Ev) : (Nay l).all PV.flat = true := by
 rw [List.all_eq_true]
 intro p hp
 simp only [Nay, List.mem_flatMap] at hp
 obtain ⟨e, _, hp⟩ := hp
 simp only [evC, List.mem_cons, List.not_mem_nil, or_false] at hp
 rcases hp with rfl | rfl | rfl | rfl | rfl <;> rfl
theorem NrU (x y : Ev) : Nh5 [(0, 0), (1, 0), (2, 0), (3, 0), (4, 0)] (evC x) (evC y) = some (decide (x = y)) := by
 obtain ⟨t, o, j, a, b⟩ := x
 obtain ⟨t', o', j', a', b'⟩ := y
 have ho : ((o.toNat : Int) == (o'.toNat : Int)) = (o == o') := by
  rw [Bool.eq_iff_iff]
  simp only [beq_iff_eq]
  constructor
  ·intro h; exact UInt8.toNat_inj.1 (by omega)
  ·intro h; rw [h]
 simp only [evC, NoQ, NpT, List.getElem?_cons_zero, List.getElem?_cons_succ, NoY, NpN, NmO, ho]
 congr 1
 rw [Bool.eq_iff_iff]
 simp [and_assoc]
theorem NnO {cfg : Cfg} (hf : cfg.fn 29 = some m29) {fuel : Nat} {st : St} {v w : PV} {xs ys : List Ev} (hv : NmH v xs) (hw : NmH w ys) (hl : xs.length ≤ 140737488355328) (hfu : xs.length < fuel) :
 ∃ r st', NaB cfg (fuel + 1) 29 [v, w] st = some (r, st') ∧ r = .b (decide (xs = ys)) := by
 refine Naw hf ?_
 unfold m29
 have h1 := NeF hv
 have h2 := NeF hw
 by_cases hne : xs.length = ys.length
 ·have e1 : ((xs.length : Int) != (ys.length : Int)) = false := by rw [hne]; simp
  simp only [Nae, ↓Z0, ↓Xp, ↓Xt, Xq, Xc, Nac, Naa, Nat.reduceAdd, Nat.reduceMul, Nat.reduceLT, Nat.reduceEqDiff, reduceIte, h1, h2, e1]
  refine Z9 (k := xs.length - 0) (fun d x => ∃ i : Nat, i ≤ xs.length ∧ d = xs.length - i ∧ (xs.drop i = ys.drop i ↔ xs = ys) ∧ x.env.get 0 = v ∧ x.env.get 1 = w ∧ x.env.get 5 = .i .i64 i) ?_ ⟨0, Nat.zero_le _, rfl, Iff.rfl, ?_⟩ (by omega)
  ·rintro d ⟨env, st1⟩ ⟨i, hi, rfl, hp, g0, g1, g5⟩
   simp only at g0 g1 g5
   by_cases hlt : i < xs.length
   ·have hx0 : xs ≠ [] := by intro e; rw [e] at hlt; simp at hlt
    have hy0 : ys ≠ [] := by intro e; rw [e] at hne; rw [hne] at hlt; simp at hlt
    have hlt2 : i < ys.length := by omega
    have hvc := NdL hv hx0
    have hwc := NdL hw hy0
    rw [hvc] at g0
    rw [hwc] at g1
    rw [List.drop_eq_getElem_cons hlt, List.drop_eq_getElem_cons hlt2] at hp
    have hld := fun c => NgZ (st := ⟨st1.sto, c⟩) hlt
    have hld2 := fun c => NgZ (st := ⟨st1.sto, c⟩) hlt2
    generalize xs[i] = X at *
    generalize ys[i] = Y at *
    have hlti : ((i : Nat) : Int) < ((xs.length : Nat) : Int) := by omega
    have hlti2 : ((i : Nat) : Int) < ((ys.length : Nat) : Int) := by omega
    have h0i : 0 ≤ ((i : Nat) : Int) := by omega
    have hln1 : (Nay xs).length = xs.length * 5 := NaI xs
    have hln2 : (Nay ys).length = ys.length * 5 := NaI ys
    have hwi : IntKind.i64.wrap ((i : Int) + Int.ofNat 1) = ((i + 1 : Nat) : Int) := by
     rw [NaK _ ⟨by show _ ≤ (i : Int) + 1; omega, by show (i : Int) + 1 < _; omega⟩]; rfl
    have hln : ∀ (n : Nat) (cs : List PV), NfG (.fsl n cs) = some (.i .i64 n) := fun _ _ => rfl
    have hq := NrU X Y
    by_cases hcd : X = Y
    ·subst hcd
     have hp' : xs.drop (i + 1) = ys.drop (i + 1) ↔ xs = ys := by rw [← hp]; simp
     have hq' : Nh5 [(0, 0), (1, 0), (2, 0), (3, 0), (4, 0)] (evC X) (evC X) = some true := by rw [hq]; simp
     simp only [↓Z0, ↓Xp, ↓Xt, Xq, Xc, Nac, Naa, Nat.reduceAdd, Nat.reduceMul, Nat.reduceLT, Nat.reduceEqDiff, reduceIte, g0, g1, g5, hln, hlti, hlti2, h0i, hln1, hln2, hld, hld2, hq', hwi, NpF]
     refine ⟨xs.length - (i + 1), by omega, i + 1, ?_⟩
     rw [hvc, hwc]
     (repeat' (first | exact True.intro | rfl | assumption | omega | apply And.intro))
    ·have hp' : ¬ xs = ys := by rw [← hp]; simp [hcd]
     have hq' : Nh5 [(0, 0), (1, 0), (2, 0), (3, 0), (4, 0)] (evC X) (evC Y) = some false := by rw [hq]; simp [hcd]
     simp only [↓Z0, ↓Xp, ↓Xt, Xq, Xc, Nac, Naa, Nat.reduceAdd, Nat.reduceMul, Nat.reduceLT, Nat.reduceEqDiff, reduceIte, g0, g1, g5, hln, hlti, hlti2, h0i, hln1, hln2, hld, hld2, hq', Z1k_]
     refine ⟨nofun, _, rfl, ?_⟩
     simp only [Naz, hp', ↓Z0, ↓Xp, ↓Xt, Xq, Xc, Nac, Naa, Nat.reduceAdd, Nat.reduceMul, Nat.reduceLT, Nat.reduceEqDiff, reduceIte]
   ·have hie : i = xs.length := by omega
    subst hie
    have hp' : xs = ys := by
     rw [← hp, List.drop_length, List.drop_of_length_le (by omega)]
    simp only [↓Z0, ↓Xp, ↓Xt, Xq, Xc, Nac, Naa, Nat.reduceAdd, Nat.reduceMul, Nat.reduceLT, Nat.reduceEqDiff, reduceIte, g0, g1, g5, h1, Int.lt_irrefl]
    refine ⟨nofun, _, rfl, ?_⟩
    simp only [Naz, ↓Z0, ↓Xp, ↓Xt, Xq, Xc, Nac, Naa, Nat.reduceAdd, Nat.reduceMul, Nat.reduceLT, Nat.reduceEqDiff, reduceIte, hp']
  ·simp [Env.get_put]
 ·have e1 : ((xs.length : Int) != (ys.length : Int)) = true := by simp; omega
  have e2 : ¬ xs = ys := by intro e; exact hne (by rw [e])
  simp only [Nae, ↓Z0, ↓Xp, ↓Xt, Xq, Xc, Nac, Naa, Nat.reduceAdd, Nat.reduceMul, Nat.reduceLT, Nat.reduceEqDiff, reduceIte, h1, h2, e1]
  refine ⟨nofun, _, rfl, ?_⟩
  simp only [Naz, e2, ↓Z0, ↓Xp, ↓Xt, Xq, Xc, Nac, Naa, Nat.reduceAdd, Nat.reduceMul, Nat.reduceLT, Nat.reduceEqDiff, reduceIte]
def gSameE : List PV → Option PV
 | [v, w] => match Nf7 v, Nf7 w with
   | some a, some b => if a.length ≤ 140737488355328 then some (.b (decide (a = b))) else none
   | _, _ => none
 | _ => none
theorem Nhf (args : List PV) (r : PV) (h : gSameE args = some r) : ∃ fuel, evP cfgE0 fuel 29 args = some r := by
 unfold gSameE at h
 split at h
 ·split at h
  ·rename_i a b ha hb
   split at h
   ·rename_i hc
    simp only [Sj] at h
    subst h
    exact ⟨a.length + 1 + 1, Nbe (by kernel_rfl) (Njd ha) (fun _ => rfl) (NnO (cfg := cfgE0) (by kernel_rfl) (Nc8 ha) (Nc8 hb) hc (by omega))⟩
   ·simp at h
  ·simp at h
 ·simp at h
def gCopyB : List PV → Option PV
 | [v] => match inL v with
   | some l => if l.length ≤ maxBytes then some (.osl 1 l.length (Nab l)) else none
   | none => none
 | _ => none
theorem NhH (args : List PV) (r : PV) (h : gCopyB args = some r) : ∃ fuel, evP cfgE0 fuel 13 args = some r := by
 unfold gCopyB at h
 split at h
 ·rename_i v
  split at h
  ·rename_i l hl
   split at h
   ·rename_i hc
    simp only [Sj] at h
    subst h
    refine ⟨0 + 1, Na2 (by kernel_rfl) (NaH hl) (Naw (by kernel_rfl : cfgE0.fn 13 = some m13) ?_)⟩
    unfold m13
    have h1 := fun st => NbA (st := st) hl
    simp only [Nae, ↓Z0, ↓Xp, ↓Xt, Xq, Xc, Nac, Naa, Nat.reduceAdd, Nat.reduceMul, Nat.reduceLT, Nat.reduceEqDiff, reduceIte, h1, NaW, hc]
    refine ⟨nofun, _, rfl, ?_⟩
    simp only [Naz, ↓Z0, ↓Xp, ↓Xt, Xq, Xc, Nac, Naa, Nat.reduceAdd, Nat.reduceMul, Nat.reduceLT, Nat.reduceEqDiff, reduceIte]
    exact NaX (St.get_putk _ _ _)
   ·simp at h
  ·simp at h
 ·simp at h
theorem Nkb {st : St} {k : Nat} {l : List Ev} (hk : st.get k = some (.cells (Nay l) false)) : Naq st (.rsl k 5 0 l.length) = some (.osl 5 l.length (Nay l)) := by
 have hw : Ncp? st (.rsl k 5 0 l.length) = some (k, 5, l.length, Nay l) := by
  unfold Ncp?
  simp only [hk, NaI]
  rw [if_pos ⟨trivial, trivial, by omega⟩]
 unfold Naq
 simp only [hw, Nbu (NgS l), NaA (NgS l)]
 rfl
def gCopyE : List PV → Option PV
 | [v] => match Nf7 v with
   | some l => if l.length * 40 ≤ maxBytes then some (if l = [] then .nsl else .osl 5 l.length (Nay l)) else none
   | none => none
 | _ => none
theorem Nlj (args : List PV) (r : PV) (h : gCopyE args = some r) : ∃ fuel, evP cfgE0 fuel 23 args = some r := by
 unfold gCopyE at h
 split at h
 ·rename_i v
  split at h
  ·rename_i l hl
   split at h
   ·rename_i hc
    simp only [Sj] at h
    subst h
    refine ⟨0 + 1, Na2 (by kernel_rfl) (Njd hl) (Naw (by kernel_rfl : cfgE0.fn 23 = some m23) ?_)⟩
    unfold m23
    have h1 := fun st => Nlp (st := st) (Nc8 hl)
    by_cases h0 : l = []
    ·subst h0
     have ha : ∀ st key, NaJ st key 5 40 0 (Nay []) .nsl = some (.nsl, st) := fun _ _ => rfl
     simp only [Nae, ↓Z0, ↓Xp, ↓Xt, Xq, Xc, Nac, Naa, Nat.reduceAdd, Nat.reduceMul, Nat.reduceLT, Nat.reduceEqDiff, reduceIte, h1, NjS, ha]
     refine ⟨nofun, _, rfl, ?_⟩
     simp only [Naz, ↓Z0, ↓Xp, ↓Xt, Xq, Xc, Nac, Naa, Nat.reduceAdd, Nat.reduceMul, Nat.reduceLT, Nat.reduceEqDiff, reduceIte, if_true]
     rfl
    ·have hlp : 0 < l.length := List.length_pos_iff.2 h0
     have ha : ∀ st key, NaJ st key 5 40 l.length (Nay l) .nsl = some (.rsl key 5 0 l.length, st.put key (some (.cells (Nay l) false))) := by
      intro st key
      unfold NaJ
      rw [if_neg (by omega), if_pos hc]
     simp only [Nae, ↓Z0, ↓Xp, ↓Xt, Xq, Xc, Nac, Naa, Nat.reduceAdd, Nat.reduceMul, Nat.reduceLT, Nat.reduceEqDiff, reduceIte, h1, NjS, ha]
     refine ⟨nofun, _, rfl, ?_⟩
     simp only [Naz, ↓Z0, ↓Xp, ↓Xt, Xq, Xc, Nac, Naa, Nat.reduceAdd, Nat.reduceMul, Nat.reduceLT, Nat.reduceEqDiff, reduceIte]
     rw [if_neg h0]
     exact Nkb (St.get_putk _ _ _)
   ·simp at h
  ·simp at h
 ·simp at h

theorem NiZ (st : St) (x : Ev) : deep st 12 (.agg (evC x)) = some (.agg (evC x)) := rfl
def Nsi (v : PV) (M : List UInt8) : PV := match v with
 | .nsl => .nsl
 | _ => .fsl M.length (Nab M)
theorem Own.byteLen {st : St} {n : Nat} {v : PV} {M : List UInt8} (h : Own st 1 v n (Nab M)) : M.length = n := by
 have hl := h.long
 rwa [Nai, Nat.mul_one] at hl
theorem Own.deepV {st : St} {n : Nat} {v : PV} {M : List UInt8} (h : Own st 1 v n (Nab M)) : Go.Pe.deep st 12 v = some (Nsi v M) := by
 have hl := h.byteLen
 have h0 := h
 rcases h with ⟨rfl, rfl, h2⟩ | ⟨k, rfl, _⟩
 ·rfl
 ·rcases h0.deep (NbV M) with ⟨h3, _⟩ | h3
  ·simp at h3
  ·rw [h3, ← hl]; rfl
theorem Own.inV {st : St} {n : Nat} {v : PV} {M : List UInt8} (h : Own st 1 v n (Nab M)) : inL (Nsi v M) = some M := by
 have hl := h.byteLen
 rcases h with ⟨rfl, rfl, h2⟩ | ⟨k, rfl, _⟩
 ·have : M = [] := List.length_eq_zero_iff.1 hl
  subst this; rfl
 ·exact NbD M
theorem Own.deepB {st : St} {n : Nat} {v : PV} {M : List UInt8} (h : Own st 1 v n (Nab M)) : ∃ v', Go.Pe.deep st 12 v = some v' ∧ inL v' = some M := ⟨_, h.deepV, h.inV⟩
def Nb9 (xs : List Int) : List PV := xs.map fun n => .i .i64 n
theorem NgM {st : St} {l : List Ev} {i : Nat} (hi : i < l.length) : loadP st 5 (.fptr ((Nay l).drop (i * 5))) = some (evC (l.getD i .zero)) := by
 rw [NgZ hi]; simp [List.getD_eq_getElem?_getD, hi]
end Go.Pe
