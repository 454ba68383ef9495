/-
  Bytes: calls by value: numbers laid out, bytes held against one another. No condition.
-/
import Derived.Test.YtmjoneiagfegdaaEvtP
set_option linter.unusedVariables false
set_option linter.unusedSimpArgs false
namespace Go.Pe
open Go Go.Am Go.RowKit

theorem ev_flat {cfg : Cfg} {f : FuncId} (hx : cfg.ext f = none) {fuel : Nat} {args : List PV} {r : PV} (ho : openArgs args = (args, { sto := .leaf, cnt := 1 })) (hc : ∀ st, closeRes st r = some r) (h : ∃ r' st', evFn cfg fuel f args { sto := .leaf, cnt := 1 } = some (r', st') ∧ r' = r) : evP cfg fuel f args = some r := by
  obtain ⟨r', st', h1, h2⟩ := h
  exact evP_of hx ho ⟨r', st', h1, by rw [h2]; exact hc st'⟩
noncomputable def cfgE0 : Cfg := { fn := fun f => lookT f tblL, ext := fun _ => none }
noncomputable def cfgE1 : Cfg := { fn := fun f => lookT f tblL, ext := extE1 }
def extE2 : FuncId → Option (List PV → Option PV) := fun f => if f = 14 then some gInt else none
noncomputable def cfgE2 : Cfg := { fn := fun f => lookT f tblL, ext := extE2 }
theorem fold_any (args : List PV) (r : PV) (h : gFold args = some r) : ∃ fuel, evP cfgE0 fuel 39 args = some r := by
  unfold gFold at h
  split at h
  · split at h
    · rename_i n hn
      simp only [Option.some.injEq] at h
      subst h
      exact ⟨0 + 1, ev_flat rfl rfl (fun _ => rfl) (fold_ev (cfg := cfgE0) (by kernel_rfl) (by unfold in64; omega))⟩
    · simp at h
  · simp at h
theorem uint_any (args : List PV) (r : PV) (h : gUint args = some r) : ∃ fuel, evP cfgE0 fuel 11 args = some r := by
  unfold gUint at h
  split at h
  · rename_i v N
    split at h
    · rename_i l hl
      split at h
      · rename_i hc
        simp only [Option.some.injEq] at h
        subst h
        obtain ⟨v', e1, e2, e3⟩ := open_out (rest := [.i .u64 N]) hl
        refine ⟨12 + 1, evP_own rfl ?_⟩
        rw [e1]
        obtain ⟨r, st', h1, q, h2, h3⟩ := uint_ev (cfg := cfgE0) (by kernel_rfl) (fuel := 12) (by omega) e2 (N := N.toNat) (by omega) hc.2.2
        rw [show ((N.toNat : Nat) : Int) = N by omega] at h1
        exact ⟨r, st', h1, by rw [h2]; exact close_bytes h3⟩
      · simp at h
    · simp at h
  · simp at h
theorem int_any (args : List PV) (r : PV) (h : gInt args = some r) : ∃ fuel, evP cfgE1 fuel 14 args = some r := by
  unfold gInt at h
  split at h
  · rename_i v n
    split at h
    · rename_i l hl
      split at h
      · rename_i hc
        simp only [Option.some.injEq] at h
        subst h
        obtain ⟨v', e1, e2, e3⟩ := open_out (rest := [.i .i64 n]) hl
        refine ⟨0 + 1, evP_own rfl ?_⟩
        rw [e1]
        obtain ⟨r, st', h1, q, h2, h3⟩ := int_ev (cfg := cfgE1) (by kernel_rfl) rfl rfl (fuel := 0) e2 (n := n) (by unfold in64; omega) hc.2.2
        exact ⟨r, st', h1, by rw [h2]; exact close_bytes h3⟩
      · simp at h
    · simp at h
  · simp at h
def inL : PV → Option (List UInt8)
  | .nsl => some []
  | .fsl n cs => match bytesOf? cs with
    | some l => if n = l.length then some l else none
    | none => none
  | _ => none
theorem cells_in {st : St} {v : PV} {l : List UInt8} (h : inL v = some l) : cellsOf st 1 v = some (l.length, ofBytes l) := by
  unfold inL at h
  split at h
  · simp only [Option.some.injEq] at h
    subst h; rfl
  · split at h
    · rename_i n cs l' hl
      split at h
      · rename_i hn
        simp only [Option.some.injEq] at h
        subst h
        have := of_bytesOf hl
        subst this
        subst hn
        unfold cellsOf
        simp only [len_ofBytes, Nat.mul_one, if_true]
      · simp at h
    · simp at h
  · simp at h
theorem in_fsl (l : List UInt8) : inL (.fsl l.length (ofBytes l)) = some l := by
  unfold inL
  simp only [bytesOf_of, if_true]
theorem open_in {v : PV} {l : List UInt8} {rest : List PV} (h : inL v = some l) : openArgs (v :: rest) = (v :: rest, { sto := .leaf, cnt := 1 }) := by
  cases v <;> first | rfl | simp [inL] at h
end Go.Pe
