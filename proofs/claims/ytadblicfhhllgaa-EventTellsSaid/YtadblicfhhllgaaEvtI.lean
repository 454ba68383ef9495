/-
 Package low: a place chosen, events held against one another, bytes and events copied. No condition.
-/
import Derived.Test.YtadblicfhhllgaaEvtK
import Derived.Test.YtadblicfhhllgaaEvtA0
import Derived.Test.YtadblicfhhllgaaPe7
set_option linter.unusedVariables false
set_option linter.unusedSimpArgs false
namespace Go.Pe
open Go Go.Am Go.RowKit

def Nhl : PV → Option (List Ev)
 | .nsl => some []
 | .fsl n cs => match NfA cs with
   | some l => if n = l.length then some l else none
   | none => none
 | _ => none
theorem Ndj {v : PV} {l : List Ev} (h : Nhl v = some l) : Nkd v l := by
 unfold Nhl at h
 split at h
 ·simp only [Sj] at h
  subst h; rfl
 ·split at h
  ·rename_i n cs l' hl
   split at h
   ·rename_i hn
    simp only [Sj] at h
    subst h
    exact ⟨hn, Nfl _ (Nat.le_refl _) hl⟩
   ·simp at h
  ·simp at h
 ·simp at h
theorem Nd0 (l : List Ev) : Nhl (.fsl l.length (Na4 l)) = some l := by
 unfold Nhl
 simp only [Nfn, if_true]
theorem NfG {v : PV} {l : List Ev} {rest : List PV} (h : Nhl v = some l) : NaS (v :: rest) = (v :: rest, { sto := .leaf, cnt := 1 }) := by
 cases v <;> first | rfl | simp [Nhl] at h
theorem Nju {st : St} {v : PV} {l : List Ev} (h : Nkd v l) : cellsOf st 5 v = some (l.length, Na4 l) := by
 cases v <;> simp only [Nkd] at h
 ·rw [h]; rfl
 ·obtain ⟨rfl, rfl⟩ := h
  unfold cellsOf
  simp only [Nbt, if_true]
theorem Nml (l : List Ev) : (Na4 l).all PV.one = true := by
 rw [List.all_eq_true]
 intro p hp
 simp only [Na4, List.mem_flatMap] at hp
 obtain ⟨e, _, hp⟩ := hp
 simp only [evC, List.mem_cons, List.not_mem_nil, or_false] at hp
 rcases hp with rfl | rfl | rfl | rfl | rfl <;> rfl
theorem Nf2 (l : List Ev) : (Na4 l).all PV.flat = true := by
 rw [List.all_eq_true]
 intro p hp
 simp only [Na4, List.mem_flatMap] at hp
 obtain ⟨e, _, hp⟩ := hp
 simp only [evC, List.mem_cons, List.not_mem_nil, or_false] at hp
 rcases hp with rfl | rfl | rfl | rfl | rfl <;> rfl
theorem Nor (x y : Ev) : NgR [(0, 0), (1, 0), (2, 0), (3, 0), (4, 0)] (evC x) (evC y) = some (decide (x = y)) := by
 obtain ⟨t, o, j, a, b⟩ := x
 obtain ⟨t', o', j', a', b'⟩ := y
 have ho : ((o.toNat : Int) == (o'.toNat : Int)) = (o == o') := by
  rw [Bool.eq_iff_iff]
  simp only [beq_iff_eq]
  constructor
  ·intro h; exact UInt8.toNat_inj.1 (by omega)
  ·intro h; rw [h]
 simp only [evC, NmB, Nnk, List.getElem?_cons_zero, List.getElem?_cons_succ, Nm9, NmW, Nlr, ho]
 congr 1
 rw [Bool.eq_iff_iff]
 simp [and_assoc]
theorem NkS {cfg : Cfg} (hf : cfg.fn 23 = some m23) {fuel : Nat} {st : St} {v w : PV} {xs ys : List Ev} (hv : Nkd v xs) (hw : Nkd w ys) (hl : xs.length ≤ 140737488355328) (hfu : xs.length < fuel) :
 ∃ r st', NaH cfg (fuel + 1) 23 [v, w] st = some (r, st') ∧ r = .b (decide (xs = ys)) := by
 refine NaD hf ?_
 unfold m23
 have h1 := Nd1 hv
 have h2 := Nd1 hw
 by_cases hne : xs.length = ys.length
 ·have e1 : ((xs.length : Int) != (ys.length : Int)) = false := by rw [hne]; simp
  simp only [Nag, ↓Z0, ↓Xp, ↓Xt, Xq, Xc, Nad, Naa, Nat.reduceAdd, Nat.reduceMul, Nat.reduceLT, Nat.reduceEqDiff, reduceIte, h1, h2, e1]
  refine Z9 (k := xs.length - 0) (fun d x => ∃ i : Nat, i ≤ xs.length ∧ d = xs.length - i ∧ (xs.drop i = ys.drop i ↔ xs = ys) ∧ x.env.get 0 = v ∧ x.env.get 1 = w ∧ x.env.get 5 = .i .i64 i) ?_ ⟨0, Nat.zero_le _, rfl, Iff.rfl, ?_⟩ (by omega)
  ·rintro d ⟨env, st1⟩ ⟨i, hi, rfl, hp, g0, g1, g5⟩
   simp only at g0 g1 g5
   by_cases hlt : i < xs.length
   ·have hx0 : xs ≠ [] := by intro e; rw [e] at hlt; simp at hlt
    have hy0 : ys ≠ [] := by intro e; rw [e] at hne; rw [hne] at hlt; simp at hlt
    have hlt2 : i < ys.length := by omega
    have hvc := Ndm hv hx0
    have hwc := Ndm hw hy0
    rw [hvc] at g0
    rw [hwc] at g1
    rw [List.drop_eq_getElem_cons hlt, List.drop_eq_getElem_cons hlt2] at hp
    have hld := fun c => Nd2 (st := ⟨st1.sto, c⟩) hlt
    have hld2 := fun c => Nd2 (st := ⟨st1.sto, c⟩) hlt2
    generalize xs[i] = X at *
    generalize ys[i] = Y at *
    have hlti : ((i : Nat) : Int) < ((xs.length : Nat) : Int) := by omega
    have hlti2 : ((i : Nat) : Int) < ((ys.length : Nat) : Int) := by omega
    have h0i : 0 ≤ ((i : Nat) : Int) := by omega
    have hln1 : (Na4 xs).length = xs.length * 5 := Nbt xs
    have hln2 : (Na4 ys).length = ys.length * 5 := Nbt ys
    have hwi : IntKind.i64.wrap ((i : Int) + Int.ofNat 1) = ((i + 1 : Nat) : Int) := by
     rw [NaI _ ⟨by show _ ≤ (i : Int) + 1; omega, by show (i : Int) + 1 < _; omega⟩]; rfl
    have hln : ∀ (n : Nat) (cs : List PV), NeU (.fsl n cs) = some (.i .i64 n) := fun _ _ => rfl
    have hq := Nor X Y
    by_cases hcd : X = Y
    ·subst hcd
     have hp' : xs.drop (i + 1) = ys.drop (i + 1) ↔ xs = ys := by rw [← hp]; simp
     have hq' : NgR [(0, 0), (1, 0), (2, 0), (3, 0), (4, 0)] (evC X) (evC X) = some true := by rw [hq]; simp
     simp only [↓Z0, ↓Xp, ↓Xt, Xq, Xc, Nad, Naa, Nat.reduceAdd, Nat.reduceMul, Nat.reduceLT, Nat.reduceEqDiff, reduceIte, g0, g1, g5, hln, hlti, hlti2, h0i, hln1, hln2, hld, hld2, hq', hwi, NmO]
     refine ⟨xs.length - (i + 1), by omega, i + 1, ?_⟩
     rw [hvc, hwc]
     (repeat' (first | exact True.intro | rfl | assumption | omega | apply And.intro))
    ·have hp' : ¬ xs = ys := by rw [← hp]; simp [hcd]
     have hq' : NgR [(0, 0), (1, 0), (2, 0), (3, 0), (4, 0)] (evC X) (evC Y) = some false := by rw [hq]; simp [hcd]
     simp only [↓Z0, ↓Xp, ↓Xt, Xq, Xc, Nad, Naa, Nat.reduceAdd, Nat.reduceMul, Nat.reduceLT, Nat.reduceEqDiff, reduceIte, g0, g1, g5, hln, hlti, hlti2, h0i, hln1, hln2, hld, hld2, hq', Z1k_]
     refine ⟨nofun, _, rfl, ?_⟩
     simp only [NaX, hp', ↓Z0, ↓Xp, ↓Xt, Xq, Xc, Nad, Naa, Nat.reduceAdd, Nat.reduceMul, Nat.reduceLT, Nat.reduceEqDiff, reduceIte]
   ·have hie : i = xs.length := by omega
    subst hie
    have hp' : xs = ys := by
     rw [← hp, List.drop_length, List.drop_of_length_le (by omega)]
    simp only [↓Z0, ↓Xp, ↓Xt, Xq, Xc, Nad, Naa, Nat.reduceAdd, Nat.reduceMul, Nat.reduceLT, Nat.reduceEqDiff, reduceIte, g0, g1, g5, h1, Int.lt_irrefl]
    refine ⟨nofun, _, rfl, ?_⟩
    simp only [NaX, ↓Z0, ↓Xp, ↓Xt, Xq, Xc, Nad, Naa, Nat.reduceAdd, Nat.reduceMul, Nat.reduceLT, Nat.reduceEqDiff, reduceIte, hp']
  ·simp [Env.get_put]
 ·have e1 : ((xs.length : Int) != (ys.length : Int)) = true := by simp; omega
  have e2 : ¬ xs = ys := by intro e; exact hne (by rw [e])
  simp only [Nag, ↓Z0, ↓Xp, ↓Xt, Xq, Xc, Nad, Naa, Nat.reduceAdd, Nat.reduceMul, Nat.reduceLT, Nat.reduceEqDiff, reduceIte, h1, h2, e1]
  refine ⟨nofun, _, rfl, ?_⟩
  simp only [NaX, e2, ↓Z0, ↓Xp, ↓Xt, Xq, Xc, Nad, Naa, Nat.reduceAdd, Nat.reduceMul, Nat.reduceLT, Nat.reduceEqDiff, reduceIte]
def gSameE : List PV → Option PV
 | [v, w] => match Nhl v, Nhl w with
   | some a, some b => if a.length ≤ 140737488355328 then some (.b (decide (a = b))) else none
   | _, _ => none
 | _ => none
theorem NjD (args : List PV) (r : PV) (h : gSameE args = some r) : ∃ fuel, evP cfgE0 fuel 23 args = some r := by
 unfold gSameE at h
 split at h
 ·split at h
  ·rename_i a b ha hb
   split at h
   ·rename_i hc
    simp only [Sj] at h
    subst h
    exact ⟨a.length + 1 + 1, Nbr (by kernel_rfl) (NfG ha) (fun _ => rfl) (NkS (cfg := cfgE0) (by kernel_rfl) (Ndj ha) (Ndj hb) hc (by omega))⟩
   ·simp at h
  ·simp at h
 ·simp at h
def gCopyB : List PV → Option PV
 | [v] => match inL v with
   | some l => if l.length ≤ maxBytes then some (.osl 1 l.length (Nab l)) else none
   | none => none
 | _ => none
theorem Njf (args : List PV) (r : PV) (h : gCopyB args = some r) : ∃ fuel, evP cfgE0 fuel 18 args = some r := by
 unfold gCopyB at h
 split at h
 ·rename_i v
  split at h
  ·rename_i l hl
   split at h
   ·rename_i hc
    simp only [Sj] at h
    subst h
    refine ⟨0 + 1, Nby (by kernel_rfl) (NaT hl) (NaD (by kernel_rfl : cfgE0.fn 18 = some m18) ?_)⟩
    unfold m18
    have h1 := fun st => NbM (st := st) hl
    simp only [Nag, ↓Z0, ↓Xp, ↓Xt, Xq, Xc, Nad, Naa, Nat.reduceAdd, Nat.reduceMul, Nat.reduceLT, Nat.reduceEqDiff, reduceIte, h1, Nbi, hc]
    refine ⟨nofun, _, rfl, ?_⟩
    simp only [NaX, ↓Z0, ↓Xp, ↓Xt, Xq, Xc, Nad, Naa, Nat.reduceAdd, Nat.reduceMul, Nat.reduceLT, Nat.reduceEqDiff, reduceIte]
    exact NaK (St.get_putk _ _ _)
   ·simp at h
  ·simp at h
 ·simp at h
theorem NiN {st : St} {k : Nat} {l : List Ev} (hk : st.get k = some (.cells (Na4 l) false)) : Nav st (.rsl k 5 0 l.length) = some (.osl 5 l.length (Na4 l)) := by
 have hw : NcL? st (.rsl k 5 0 l.length) = some (k, 5, l.length, Na4 l) := by
  unfold NcL?
  simp only [hk, Nbt]
  rw [if_pos ⟨trivial, trivial, by omega⟩]
 unfold Nav
 simp only [hw, NbJ (Nf2 l), NaA (Nf2 l)]
 rfl
def gCopyE : List PV → Option PV
 | [v] => match Nhl v with
   | some l => if l.length * 40 ≤ maxBytes then some (if l = [] then .nsl else .osl 5 l.length (Na4 l)) else none
   | none => none
 | _ => none
theorem Nkb (args : List PV) (r : PV) (h : gCopyE args = some r) : ∃ fuel, evP cfgE0 fuel 19 args = some r := by
 unfold gCopyE at h
 split at h
 ·rename_i v
  split at h
  ·rename_i l hl
   split at h
   ·rename_i hc
    simp only [Sj] at h
    subst h
    refine ⟨0 + 1, Nby (by kernel_rfl) (NfG hl) (NaD (by kernel_rfl : cfgE0.fn 19 = some m19) ?_)⟩
    unfold m19
    have h1 := fun st => Nju (st := st) (Ndj hl)
    by_cases h0 : l = []
    ·subst h0
     have ha : ∀ st key, NaC st key 5 40 0 (Na4 []) .nsl = some (.nsl, st) := fun _ _ => rfl
     simp only [Nag, ↓Z0, ↓Xp, ↓Xt, Xq, Xc, Nad, Naa, Nat.reduceAdd, Nat.reduceMul, Nat.reduceLT, Nat.reduceEqDiff, reduceIte, h1, Nml, ha]
     refine ⟨nofun, _, rfl, ?_⟩
     simp only [NaX, ↓Z0, ↓Xp, ↓Xt, Xq, Xc, Nad, Naa, Nat.reduceAdd, Nat.reduceMul, Nat.reduceLT, Nat.reduceEqDiff, reduceIte, if_true]
     rfl
    ·have hlp : 0 < l.length := List.length_pos_iff.2 h0
     have ha : ∀ st key, NaC st key 5 40 l.length (Na4 l) .nsl = some (.rsl key 5 0 l.length, st.put key (some (.cells (Na4 l) false))) := by
      intro st key
      unfold NaC
      rw [if_neg (by omega), if_pos hc]
     simp only [Nag, ↓Z0, ↓Xp, ↓Xt, Xq, Xc, Nad, Naa, Nat.reduceAdd, Nat.reduceMul, Nat.reduceLT, Nat.reduceEqDiff, reduceIte, h1, Nml, ha]
     refine ⟨nofun, _, rfl, ?_⟩
     simp only [NaX, ↓Z0, ↓Xp, ↓Xt, Xq, Xc, Nad, Naa, Nat.reduceAdd, Nat.reduceMul, Nat.reduceLT, Nat.reduceEqDiff, reduceIte]
     rw [if_neg h0]
     exact NiN (St.get_putk _ _ _)
   ·simp at h
  ·simp at h
 ·simp at h

def Nqk (v : PV) (M : List UInt8) : PV := match v with
 | .nsl => .nsl
 | _ => .fsl M.length (Nab M)
theorem Own.byteLen {st : St} {n : Nat} {v : PV} {M : List UInt8} (h : Own st 1 v n (Nab M)) : M.length = n := by
 have hl := h.long
 rwa [Nah, Nat.mul_one] at hl
theorem Own.deepV {st : St} {n : Nat} {v : PV} {M : List UInt8} (h : Own st 1 v n (Nab M)) : Go.Pe.deep st 12 v = some (Nqk v M) := by
 have hl := h.byteLen
 have h0 := h
 rcases h with ⟨rfl, rfl, h2⟩ | ⟨k, rfl, _⟩
 ·rfl
 ·rcases h0.deep (Nbq M) with ⟨h3, _⟩ | h3
  ·simp at h3
  ·rw [h3, ← hl]; rfl
theorem Own.inV {st : St} {n : Nat} {v : PV} {M : List UInt8} (h : Own st 1 v n (Nab M)) : inL (Nqk v M) = some M := by
 have hl := h.byteLen
 rcases h with ⟨rfl, rfl, h2⟩ | ⟨k, rfl, _⟩
 ·have : M = [] := List.length_eq_zero_iff.1 hl
  subst this; rfl
 ·exact Nbv M
theorem Own.deepB {st : St} {n : Nat} {v : PV} {M : List UInt8} (h : Own st 1 v n (Nab M)) : ∃ v', Go.Pe.deep st 12 v = some v' ∧ inL v' = some M := ⟨_, h.deepV, h.inV⟩
def Ncz (xs : List Int) : List PV := xs.map fun n => .i .i64 n
theorem NhS {st : St} {l : List Ev} {i : Nat} (hi : i < l.length) : loadP st 5 (.fptr ((Na4 l).drop (i * 5))) = some (evC (l.getD i .zero)) := by
 rw [Nd2 hi]; simp [List.getD_eq_getElem?_getD, hi]
end Go.Pe
