/-
 Events: what is framed is read, what is read was framed. Plain mathematics. No condition.
-/
import Derived.Test.YtogdkhejfkbnmaaEvtH
import Derived.Test.YtogdkhejfkbnmaaEvtA0
set_option linter.unusedVariables false
set_option linter.unusedSimpArgs false
namespace Go.Pe
open Go Go.Am Go.RowKit

def Npa (e : Ev) : Prop := NcN e.T ∧ NcN e.J ∧ NcN e.A ∧ NcN e.B
def pt (x e : Ev) : List UInt8 := e.O :: (NfF x.T e.T ++ (NfF x.J e.J ++ (NfF x.A e.A ++ NfF x.B e.B)))
def pts (x : Ev) : List Ev → List UInt8
 | [] => []
 | e :: r => pt x e ++ pts e r
theorem NpW (acc : List UInt8) (x e : Ev) : Nsm acc x e = acc ++ pt x e := by
 unfold Nsm Ntr pt
 simp only [List.append_assoc, List.singleton_append]
 rfl
theorem Nhh (l : List Ev) : ∀ (acc : List UInt8) (x : Ev), Nne acc x l = acc ++ pts x l := by
 induction l with
 | nil => intro acc x; show acc = acc ++ []; simp
 | cons e r ih =>
   intro acc x
   show Nne (Nsm acc x e) e r = acc ++ (pt x e ++ pts e r)
   rw [ih, NpW, List.append_assoc]
theorem Nj8 {x e : Int} (h : NcN e) : IntKind.i64.wrap (IntKind.i64.wrap (x + e) - x) = e := by
 unfold NcN at h
 simp only [IntKind.wrap_i64]
 omega
theorem Nc6 {xs l rest : List UInt8} {a : Nat} (h : xs.drop a = l ++ rest) : xs.drop (a + l.length) = rest := by
 rw [← List.drop_drop, h, List.drop_left]
theorem Ne6 {xs l rest : List UInt8} {a : Nat} (h : xs.drop a = l ++ rest) (ha : a ≤ xs.length) : a + l.length ≤ xs.length := by
 have := congrArg List.length h
 simp only [List.length_drop, List.length_append] at this
 omega
theorem Nb8 (l : List UInt8) : (NaD l).length = l.length + 4 := by unfold NaD be4; simp
theorem Nea (l : List Ev) : (Ncw l).length = (Nah (Nht l).length).length + ((Nht l).length + 4) := by
 unfold Ncw; rw [List.length_append, Nb8]
end Go.Pe
