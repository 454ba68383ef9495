/-
 Words: what the laws share: is, not, awake, Pick. No condition.
-/
import Derived.Test.YtaepgkghgcchnaaDoorWordsS
import Derived.Test.YtaepgkghgcchnaaDoorPe4
set_option linter.unusedVariables false
set_option linter.unusedSimpArgs false
set_option maxHeartbeats 4000000
set_option maxRecDepth 100000
namespace Go.Pe
open Go Go.Am Go.RowKit

def NlM : FuncId → Option (List PV → Option PV) := fun f => if f = 9 then some gNext else none
noncomputable def cfgI : Cfg := { fn := fun f => NeB f tblL, ext := NlM }
theorem Njc : cfgI.ext 9 = some gNext := by kernel_rfl
theorem Njb : cfgI.ext 13 = none := by kernel_rfl
theorem Njd : cfgI.ext 12 = none := by kernel_rfl
theorem Ni6 : cfgI.fn 13 = some m13 := by kernel_rfl
theorem Ni7 : cfgI.fn 12 = some m12 := by kernel_rfl
noncomputable def gIs : List PV → Option PV
 | [.s text, .i .i64 a, .agg [.i .u8 k, .s s, .i .i64 n, .i .i64 l, .i .i64 p, .i .i64 e]] => by classical exact if gNext [.s text, .i .i64 a] = some (NbO k s n l p e) then some (.b true) else none
 | _ => none
theorem Njn (args : List PV) (r : PV) (h : gIs args = some r) : ∃ fuel, evP cfgI fuel 13 args = some r := by
 unfold gIs at h
 split at h
 ·rename_i text a k s n l p e
  split at h
  ·rename_i hn
   simp only [Sj] at h
   subst h
   refine ⟨0 + 1, NfQ Njb rfl ?_⟩
   have hcall : ∀ (st : St) (key : Nat), Nal (Nao cfgI (Na2 cfgI 0) 9) false st key [.s text, .i .i64 a] = some (.tup [.agg [.i .u8 k, .s s, .i .i64 n, .i .i64 l, .i .i64 p, .i .i64 e], .agg [.i .i64 0, .i .i64 0]], st) := by
    intro st key
    exact Nan rfl (by rw [Nav Njc]; exact hn) rfl
   refine Nbj Ni6 ?_
   unfold m13
   simp only [Nap, ↓Z0, ↓Xp, ↓Xt, Xq, Xc, Naf, Naa, Nat.reduceAdd, Nat.reduceMul, Nat.reduceLT, Nat.reduceEqDiff, reduceIte, Xm, Nat.reduceLeDiff, hcall, beq_self_eq_true, show ((0 : Int) == Int.ofNat 0) = true from rfl]
   refine ⟨nofun, _, rfl, ?_⟩
   simp only [Ndv, ↓Z0, ↓Xp, ↓Xt, Xq, Xc, Naf, Naa, Nat.reduceAdd, Nat.reduceMul, Nat.reduceLT, Nat.reduceEqDiff, reduceIte]
   rfl
  ·simp at h
 ·simp at h
theorem NfI : fvP cfgI 40 7 [] = some (.b true) := by kernel_rfl
def gAwake : List PV → Option PV
 | [] => some (.b true)
 | _ => none
theorem NfH (args : List PV) (r : PV) (h : gAwake args = some r) : ∃ fuel, evP cfgI fuel 7 args = some r := by
 unfold gAwake at h
 split at h
 ·rw [← h]
  refine ⟨40, ?_⟩
  have := NfI
  rwa [NfY] at this
 ·simp at h
def Ndc (x n : Int) : Int := if n < 1 then 0 else if x.tmod n < 0 then x.tmod n + n else x.tmod n
def gPick : List PV → Option PV
 | [.i .i64 x, .i .i64 n] => if -9223372036854775808 ≤ n ∧ n < 9223372036854775808 then some (.i .i64 (Ndc x n)) else none
 | _ => none
theorem Nhd {x n : Int} (h : 0 < n) : 0 ≤ Ndc x n ∧ Ndc x n < n := by
 unfold Ndc
 have := Int.tmod_lt_of_pos x h
 have := Int.lt_tmod_of_pos x h
 split
 ·omega
 ·split <;> omega
theorem Nhe (args : List PV) (r : PV) (h : gPick args = some r) : ∃ fuel, evP cfgI fuel 12 args = some r := by
 unfold gPick at h
 split at h
 ·rename_i x n
  split at h
  ·rename_i hr
   simp only [Sj] at h
   subst h
   refine ⟨0 + 1, NfQ Njd rfl ?_⟩
   refine Nbj Ni7 ?_
   unfold m12
   by_cases h1 : n < Int.ofNat 1
   ·have h1' : n < 1 := h1
    simp only [Nap, ↓Z0, ↓Xp, ↓Xt, Xq, Xc, Naf, Naa, Nat.reduceAdd, Nat.reduceMul, Nat.reduceLT, Nat.reduceEqDiff, reduceIte, Xm, Nat.reduceLeDiff, h1]
    refine ⟨nofun, _, rfl, ?_⟩
    simp only [Ndv, ↓Z0, ↓Xp, ↓Xt, Xq, Xc, Naf, Naa, Nat.reduceAdd, Nat.reduceMul, Nat.reduceLT, Nat.reduceEqDiff, reduceIte, Ndc, h1']
    rfl
   ·have h1' : ¬ n < 1 := h1
    have hn0 : ¬ n = 0 := by omega
    have := Int.tmod_lt_of_pos x (b := n) (by omega)
    have := Int.lt_tmod_of_pos x (b := n) (by omega)
    by_cases h2 : x.tmod n < Int.ofNat 0
    ·have h2' : x.tmod n < 0 := h2
     have hw : IntKind.i64.wrap (x.tmod n + n) = x.tmod n + n := NaM _ (by omega)
     simp only [Nap, ↓Z0, ↓Xp, ↓Xt, Xq, Xc, Naf, Naa, Nat.reduceAdd, Nat.reduceMul, Nat.reduceLT, Nat.reduceEqDiff, reduceIte, Xm, Nat.reduceLeDiff, h1, hn0, h2, hw]
     refine ⟨nofun, _, rfl, ?_⟩
     simp only [Ndv, ↓Z0, ↓Xp, ↓Xt, Xq, Xc, Naf, Naa, Nat.reduceAdd, Nat.reduceMul, Nat.reduceLT, Nat.reduceEqDiff, reduceIte, Ndc, h1', h2']
     rfl
    ·have h2' : ¬ x.tmod n < 0 := h2
     simp only [Nap, ↓Z0, ↓Xp, ↓Xt, Xq, Xc, Naf, Naa, Nat.reduceAdd, Nat.reduceMul, Nat.reduceLT, Nat.reduceEqDiff, reduceIte, Xm, Nat.reduceLeDiff, h1, hn0, h2]
     refine ⟨nofun, _, rfl, ?_⟩
     simp only [Ndv, ↓Z0, ↓Xp, ↓Xt, Xq, Xc, Naf, Naa, Nat.reduceAdd, Nat.reduceMul, Nat.reduceLT, Nat.reduceEqDiff, reduceIte, Ndc, h1', h2']
     rfl
  ·simp at h
 ·simp at h
end Go.Pe
