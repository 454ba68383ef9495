/-
 Words: what the laws share: is, not, awake, Pick. No condition.
-/
import Derived.Test.YtaepgkghgcchnaaDoorWordsS
import Derived.Test.YtaepgkghgcchnaaDoorPe4
set_option linter.unusedVariables false
set_option linter.unusedSimpArgs false
set_option maxHeartbeats 4000000
set_option maxRecDepth 100000
namespace Go.Pe
open Go Go.Am Go.RowKit

def Nly : FuncId → Option (List PV → Option PV) := fun f => if f = 9 then some gNext else none
noncomputable def cfgI : Cfg := { fn := fun f => NeB f tblL, ext := Nly }
theorem Ni8 : cfgI.ext 9 = some gNext := by kernel_rfl
theorem Ni9 : cfgI.ext 10 = none := by kernel_rfl
theorem Ni1 : cfgI.fn 10 = some m10 := by kernel_rfl
noncomputable def gNot : List PV → Option PV
 | [.s text, .i .i64 a, .i .i64 l] => by classical exact if gNext [.s text, .i .i64 a] = some (NaV 100 l) then some (.b true) else none
 | _ => none
theorem Nih (args : List PV) (r : PV) (h : gNot args = some r) : ∃ fuel, evP cfgI fuel 10 args = some r := by
 unfold gNot at h
 split at h
 ·rename_i text a l
  split at h
  ·rename_i hn
   simp only [Sj] at h
   subst h
   refine ⟨0 + 1, NfR Ni9 rfl ?_⟩
   have hcall : ∀ (st : St) (key : Nat), Nax (Nau cfgI (Na5 cfgI 0) 9) false st key [.s text, .i .i64 a] = some (.tup [.agg [.i .u8 0, .s [], .i .i64 0, .i .i64 0, .i .i64 0, .i .i64 0], .agg [.i .i64 100, .i .i64 l]], st) := by
    intro st key
    exact Nan rfl (by rw [NaD Ni8]; exact hn) rfl
   refine Na8 Ni1 ?_
   unfold m10
   simp only [Nar, ↓Z0, ↓Xp, ↓Xt, Xq, Xc, Naf, Naa, Nat.reduceAdd, Nat.reduceMul, Nat.reduceLT, Nat.reduceEqDiff, reduceIte, Xm, Nat.reduceLeDiff, hcall, beq_self_eq_true, show ((0 : Int) == Int.ofNat 0) = true from rfl, show ((100 : Int) == Int.ofNat 100) = true from rfl]
   refine ⟨nofun, _, rfl, ?_⟩
   simp only [Nds, ↓Z0, ↓Xp, ↓Xt, Xq, Xc, Naf, Naa, Nat.reduceAdd, Nat.reduceMul, Nat.reduceLT, Nat.reduceEqDiff, reduceIte]
   rfl
  ·simp at h
 ·simp at h
theorem NfH : fvP cfgI 40 7 [] = some (.b true) := by kernel_rfl
def gAwake : List PV → Option PV
 | [] => some (.b true)
 | _ => none
theorem NfG (args : List PV) (r : PV) (h : gAwake args = some r) : ∃ fuel, evP cfgI fuel 7 args = some r := by
 unfold gAwake at h
 split at h
 ·rw [← h]
  refine ⟨40, ?_⟩
  have := NfH
  rwa [Nhn] at this
 ·simp at h
end Go.Pe
