/-
 Events: what is framed is read, what is read was framed. Plain mathematics. No condition.
-/
import Derived.Test.YtadblicfhhllgaaEvtH
import Derived.Test.YtadblicfhhllgaaEvtA0
set_option linter.unusedVariables false
set_option linter.unusedSimpArgs false
namespace Go.Pe
open Go Go.Am Go.RowKit

def Nnl (e : Ev) : Prop := Nc3 e.T ∧ Nc3 e.J ∧ Nc3 e.A ∧ Nc3 e.B
def pt (x e : Ev) : List UInt8 := e.O :: (Ncf x.T e.T ++ (Ncf x.J e.J ++ (Ncf x.A e.A ++ Ncf x.B e.B)))
def pts (x : Ev) : List Ev → List UInt8
 | [] => []
 | e :: r => pt x e ++ pts e r
theorem NjW (acc : List UInt8) (x e : Ev) : Nfh acc x e = acc ++ pt x e := by
 unfold Nfh Nl5 pt
 simp only [List.append_assoc, List.singleton_append]
 rfl
theorem Ngs (l : List Ev) : ∀ (acc : List UInt8) (x : Ev), NfI acc x l = acc ++ pts x l := by
 induction l with
 | nil => intro acc x; show acc = acc ++ []; simp
 | cons e r ih =>
   intro acc x
   show NfI (Nfh acc x e) e r = acc ++ (pt x e ++ pts e r)
   rw [ih, NjW, List.append_assoc]
theorem NiX {x e : Int} (h : Nc3 e) : IntKind.i64.wrap (IntKind.i64.wrap (x + e) - x) = e := by
 unfold Nc3 at h
 simp only [IntKind.wrap_i64]
 omega
theorem NcI {xs l rest : List UInt8} {a : Nat} (h : xs.drop a = l ++ rest) : xs.drop (a + l.length) = rest := by
 rw [← List.drop_drop, h, List.drop_left]
theorem Nky {xs l rest : List UInt8} {a : Nat} (h : xs.drop a = l ++ rest) (ha : a ≤ xs.length) : a + l.length ≤ xs.length := by
 have := congrArg List.length h
 simp only [List.length_drop, List.length_append] at this
 omega
theorem Ndv (l : List UInt8) : (NaE l).length = l.length + 4 := by unfold NaE be4; simp
theorem Niq (l : List Ev) : (Nb0 l).length = (Nai (NaU l).length).length + ((NaU l).length + 4) := by
 unfold Nb0; rw [List.length_append, Ndv]
end Go.Pe
