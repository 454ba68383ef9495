/-
 Bytes: calls by value: numbers laid out, bytes held against one another. No condition.
-/
import Derived.Test.YtadblicfhhllgaaEvtP
set_option linter.unusedVariables false
set_option linter.unusedSimpArgs false
namespace Go.Pe
open Go Go.Am Go.RowKit

theorem Nbr {cfg : Cfg} {f : FuncId} (hx : cfg.ext f = none) {fuel : Nat} {args : List PV} {r : PV} (ho : NaS args = (args, { sto := .leaf, cnt := 1 })) (hc : ∀ st, Nav st r = some r) (h : ∃ r' st', NaH cfg fuel f args { sto := .leaf, cnt := 1 } = some (r', st') ∧ r' = r) : evP cfg fuel f args = some r := by
 obtain ⟨r', st', h1, h2⟩ := h
 exact Nby hx ho ⟨r', st', h1, by rw [h2]; exact hc st'⟩
noncomputable def cfgE0 : Cfg := { fn := fun f => NbX f tblL, ext := fun _ => none }
noncomputable def cfgE1 : Cfg := { fn := fun f => NbX f tblL, ext := NoI }
def Noo : FuncId → Option (List PV → Option PV) := fun f => if f = 27 then some NnM else none
noncomputable def cfgE2 : Cfg := { fn := fun f => NbX f tblL, ext := Noo }
theorem NkU (args : List PV) (r : PV) (h : Nku args = some r) : ∃ fuel, evP cfgE0 fuel 42 args = some r := by
 unfold Nku at h
 split at h
 ·split at h
  ·rename_i n hn
   simp only [Sj] at h
   subst h
   exact ⟨0 + 1, Nbr rfl rfl (fun _ => rfl) (NmN (cfg := cfgE0) (by kernel_rfl) (by unfold Nc3; omega))⟩
  ·simp at h
 ·simp at h
theorem NhG (args : List PV) (r : PV) (h : Ngg args = some r) : ∃ fuel, evP cfgE0 fuel 32 args = some r := by
 unfold Ngg at h
 split at h
 ·rename_i v N
  split at h
  ·rename_i l hl
   split at h
   ·rename_i hc
    simp only [Sj] at h
    subst h
    obtain ⟨v', e1, e2, e3⟩ := NfE (rest := [.i .u64 N]) hl
    refine ⟨12 + 1, NfO rfl ?_⟩
    rw [e1]
    obtain ⟨r, st', h1, q, h2, h3⟩ := NmS (cfg := cfgE0) (by kernel_rfl) (fuel := 12) (by omega) e2 (N := N.toNat) (by omega) hc.2.2
    rw [show ((N.toNat : Nat) : Int) = N by omega] at h1
    exact ⟨r, st', h1, by rw [h2]; exact NaK h3⟩
   ·simp at h
  ·simp at h
 ·simp at h
theorem NmZ (args : List PV) (r : PV) (h : NnM args = some r) : ∃ fuel, evP cfgE1 fuel 27 args = some r := by
 unfold NnM at h
 split at h
 ·rename_i v n
  split at h
  ·rename_i l hl
   split at h
   ·rename_i hc
    simp only [Sj] at h
    subst h
    obtain ⟨v', e1, e2, e3⟩ := NfE (rest := [.i .i64 n]) hl
    refine ⟨0 + 1, NfO rfl ?_⟩
    rw [e1]
    obtain ⟨r, st', h1, q, h2, h3⟩ := Npa (cfg := cfgE1) (by kernel_rfl) rfl rfl (fuel := 0) e2 (n := n) (by unfold Nc3; omega) hc.2.2
    exact ⟨r, st', h1, by rw [h2]; exact NaK h3⟩
   ·simp at h
  ·simp at h
 ·simp at h
def inL : PV → Option (List UInt8)
 | .nsl => some []
 | .fsl n cs => match bytesOf? cs with
   | some l => if n = l.length then some l else none
   | none => none
 | _ => none
theorem NbM {st : St} {v : PV} {l : List UInt8} (h : inL v = some l) : cellsOf st 1 v = some (l.length, Nab l) := by
 unfold inL at h
 split at h
 ·simp only [Sj] at h
  subst h; rfl
 ·split at h
  ·rename_i n cs l' hl
   split at h
   ·rename_i hn
    simp only [Sj] at h
    subst h
    have := NcR hl
    subst this
    subst hn
    unfold cellsOf
    simp only [Nah, Nat.mul_one, if_true]
   ·simp at h
  ·simp at h
 ·simp at h
theorem Nbv (l : List UInt8) : inL (.fsl l.length (Nab l)) = some l := by
 unfold inL
 simp only [Nbi, if_true]
theorem NaT {v : PV} {l : List UInt8} {rest : List PV} (h : inL v = some l) : NaS (v :: rest) = (v :: rest, { sto := .leaf, cnt := 1 }) := by
 cases v <;> first | rfl | simp [inL] at h
def gSame : List PV → Option PV
 | [v, w] => match inL v, inL w with
   | some a, some b => some (.b (a == b))
   | _, _ => none
 | _ => none
theorem Nig (args : List PV) (r : PV) (h : gSame args = some r) : ∃ fuel, evP cfgE0 fuel 12 args = some r := by
 unfold gSame at h
 split at h
 ·rename_i v w
  split at h
  ·rename_i a b ha hb
   simp only [Sj] at h
   subst h
   refine ⟨0 + 1, Nbr rfl (NaT ha) (fun _ => rfl) (NaD (by kernel_rfl : cfgE0.fn 12 = some m12) ?_)⟩
   unfold m12
   have h1 := fun st => NbM (st := st) ha
   have h2 := fun st => NbM (st := st) hb
   simp only [Nag, ↓Z0, ↓Xp, ↓Xt, Xq, Xc, Nad, Naa, Nat.reduceAdd, Nat.reduceMul, Nat.reduceLT, Nat.reduceEqDiff, reduceIte, Xm, Nat.reduceLeDiff, h1, h2, Nbi]
   refine ⟨nofun, _, rfl, ?_⟩
   simp only [NaX, ↓Z0, ↓Xp, ↓Xt, Xq, Xc, Nad, Naa, Nat.reduceAdd, Nat.reduceMul, Nat.reduceLT, Nat.reduceEqDiff, reduceIte]
  ·simp at h
 ·simp at h
end Go.Pe
