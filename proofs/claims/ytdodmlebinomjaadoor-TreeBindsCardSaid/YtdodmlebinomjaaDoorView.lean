/-
 How any argument of a law is opened: numbers, truths, texts, structures, arrays, slices, slices of slices, as plain data over the first world. No condition; nothing of the program.
-/
import Derived.Test.YtdodmlebinomjaaDoorOpen
import Derived.Test.YtdodmlebinomjaaDoorPe4
namespace Go.Pe
open Go.RowKit Go.ChangeShapes Go.WideShapes Go.ChangeAt Go.Am
set_option linter.unusedVariables false

inductive Sh where
 | i (k : IntKind)
 | b
 | s
 | sl (e : Sh)
 | st (r : Sh)
 | cons (a r : Sh)
 | nil
 | bot (w : Nat)
def Sh.flat : Sh → Bool
 | .bot _ => false
 | .sl e => e.flat
 | .st r => r.flat
 | .cons a r => a.flat && r.flat
 | _ => true
def Sh.low : Sh → Nat
 | .st (.cons (.i .u8) (.cons .s (.cons (.i .i64) (.cons (.sl _) .nil)))) => 56
 | _ => 1
section
variable {H : Type} {enc : TypeId × Value → H} {P : Program} {W : World}

def Small (P : Program) (t : TypeId) (d : DataW H) : Prop := ∀ n ∈ d.weights P t, n ≤ reachBytes
theorem FC.drop {F : Nat → Nat → Option Value} {vs : List Value} {ps : List PV} (h : FC F vs ps) (k : Nat) : FC F (vs.drop k) (ps.drop k) :=
 ⟨by simp [h.1], fun i v p hv hp => h.2 (k + i) v p (by simpa using hv) (by simpa using hp)⟩
theorem FC.append {F : Nat → Nat → Option Value} {vs us : List Value} {ps qs : List PV} (h : FC F vs ps) (k : FC F us qs) : FC F (vs ++ us) (ps ++ qs) := by
 refine ⟨by simp [h.1, k.1], fun i v p hv hp => ?_⟩
 by_cases hi : i < vs.length
 ·rw [List.getElem?_append_left hi] at hv
  rw [List.getElem?_append_left (by rw [← h.1]; exact hi)] at hp
  exact h.2 i v p hv hp
 ·rw [List.getElem?_append_right (by omega)] at hv
  rw [List.getElem?_append_right (by rw [← h.1]; omega), ← h.1] at hp
  exact k.2 _ v p hv hp
theorem FC.one {F : Nat → Nat → Option Value} {v : Value} {p : PV} (h : FRel F v p) : FC F [v] [p] := FC.cons h FC.nil
end
end Go.Pe
