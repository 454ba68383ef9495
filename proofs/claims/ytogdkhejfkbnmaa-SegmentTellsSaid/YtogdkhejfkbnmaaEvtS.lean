/-
 Bytes: calls by value: numbers laid out, bytes held against one another. No condition.
-/
import Derived.Test.YtogdkhejfkbnmaaEvtP
set_option linter.unusedVariables false
set_option linter.unusedSimpArgs false
namespace Go.Pe
open Go Go.Am Go.RowKit

theorem Nbe {cfg : Cfg} {f : FuncId} (hx : cfg.ext f = none) {fuel : Nat} {args : List PV} {r : PV} (ho : NaO args = (args, { sto := .leaf, cnt := 1 })) (hc : ∀ st, Naq st r = some r) (h : ∃ r' st', NaB cfg fuel f args { sto := .leaf, cnt := 1 } = some (r', st') ∧ r' = r) : evP cfg fuel f args = some r := by
 obtain ⟨r', st', h1, h2⟩ := h
 exact Na2 hx ho ⟨r', st', h1, by rw [h2]; exact hc st'⟩
noncomputable def cfgE0 : Cfg := { fn := fun f => Nbr f tblL, ext := fun _ => none }
noncomputable def cfgE1 : Cfg := { fn := fun f => Nbr f tblL, ext := Nq3 }
theorem NnL (args : List PV) (r : PV) (h : NkZ args = some r) : ∃ fuel, evP cfgE0 fuel 70 args = some r := by
 unfold NkZ at h
 split at h
 ·split at h
  ·rename_i n hn
   simp only [Sj] at h
   subst h
   exact ⟨0 + 1, Nbe rfl rfl (fun _ => rfl) (Npz (cfg := cfgE0) (by kernel_rfl) (by unfold NcN; omega))⟩
  ·simp at h
 ·simp at h
theorem NjF (args : List PV) (r : PV) (h : NfA args = some r) : ∃ fuel, evP cfgE0 fuel 34 args = some r := by
 unfold NfA at h
 split at h
 ·rename_i v N
  split at h
  ·rename_i l hl
   split at h
   ·rename_i hc
    simp only [Sj] at h
    subst h
    obtain ⟨v', e1, e2, e3⟩ := Njq (rest := [.i .u64 N]) hl
    refine ⟨12 + 1, NiP rfl ?_⟩
    rw [e1]
    obtain ⟨r, st', h1, q, h2, h3⟩ := Nqd (cfg := cfgE0) (by kernel_rfl) (fuel := 12) (by omega) e2 (N := N.toNat) (by omega) hc.2.2
    rw [show ((N.toNat : Nat) : Int) = N by omega] at h1
    exact ⟨r, st', h1, by rw [h2]; exact NaX h3⟩
   ·simp at h
  ·simp at h
 ·simp at h
theorem Npw (args : List PV) (r : PV) (h : No2 args = some r) : ∃ fuel, evP cfgE1 fuel 42 args = some r := by
 unfold No2 at h
 split at h
 ·rename_i v n
  split at h
  ·rename_i l hl
   split at h
   ·rename_i hc
    simp only [Sj] at h
    subst h
    obtain ⟨v', e1, e2, e3⟩ := Njq (rest := [.i .i64 n]) hl
    refine ⟨0 + 1, NiP rfl ?_⟩
    rw [e1]
    obtain ⟨r, st', h1, q, h2, h3⟩ := Nrb (cfg := cfgE1) (by kernel_rfl) rfl rfl (fuel := 0) e2 (n := n) (by unfold NcN; omega) hc.2.2
    exact ⟨r, st', h1, by rw [h2]; exact NaX h3⟩
   ·simp at h
  ·simp at h
 ·simp at h
def inL : PV → Option (List UInt8)
 | .nsl => some []
 | .fsl n cs => match bytesOf? cs with
   | some l => if n = l.length then some l else none
   | none => none
 | _ => none
theorem NbA {st : St} {v : PV} {l : List UInt8} (h : inL v = some l) : cellsOf st 1 v = some (l.length, Nab l) := by
 unfold inL at h
 split at h
 ·simp only [Sj] at h
  subst h; rfl
 ·split at h
  ·rename_i n cs l' hl
   split at h
   ·rename_i hn
    simp only [Sj] at h
    subst h
    have := Ncy hl
    subst this
    subst hn
    unfold cellsOf
    simp only [Nai, Nat.mul_one, if_true]
   ·simp at h
  ·simp at h
 ·simp at h
theorem NbD (l : List UInt8) : inL (.fsl l.length (Nab l)) = some l := by
 unfold inL
 simp only [NaW, if_true]
theorem NaH {v : PV} {l : List UInt8} {rest : List PV} (h : inL v = some l) : NaO (v :: rest) = (v :: rest, { sto := .leaf, cnt := 1 }) := by
 cases v <;> first | rfl | simp [inL] at h
def gSame : List PV → Option PV
 | [v, w] => match inL v, inL w with
   | some a, some b => some (.b (a == b))
   | _, _ => none
 | _ => none
theorem Njh (args : List PV) (r : PV) (h : gSame args = some r) : ∃ fuel, evP cfgE0 fuel 28 args = some r := by
 unfold gSame at h
 split at h
 ·rename_i v w
  split at h
  ·rename_i a b ha hb
   simp only [Sj] at h
   subst h
   refine ⟨0 + 1, Nbe rfl (NaH ha) (fun _ => rfl) (Naw (by kernel_rfl : cfgE0.fn 28 = some m28) ?_)⟩
   unfold m28
   have h1 := fun st => NbA (st := st) ha
   have h2 := fun st => NbA (st := st) hb
   simp only [Nae, ↓Z0, ↓Xp, ↓Xt, Xq, Xc, Nac, Naa, Nat.reduceAdd, Nat.reduceMul, Nat.reduceLT, Nat.reduceEqDiff, reduceIte, Xm, Nat.reduceLeDiff, h1, h2, NaW]
   refine ⟨nofun, _, rfl, ?_⟩
   simp only [Naz, ↓Z0, ↓Xp, ↓Xt, Xq, Xc, Nac, Naa, Nat.reduceAdd, Nat.reduceMul, Nat.reduceLT, Nat.reduceEqDiff, reduceIte]
  ·simp at h
 ·simp at h
end Go.Pe
