/-
 Numbers in runs over plain data: rules that decide tests and drop wraps by linear arithmetic. No condition; nothing of the program.
-/
import Derived.Test.YtdodmlebinomjaaDoorPe4
set_option linter.unusedVariables false
set_option linter.unusedSimpArgs false
namespace Go.Pe
open Go

end Go.Pe
namespace Go.Pe
open Go

theorem NfD (n : Nat) : Int.ofNat n = (n : Int) := Eq.trans rfl rfl
theorem NdL (n : Nat) : Int.negSucc n = -((n + 1 : Nat) : Int) := Eq.trans rfl rfl
theorem ltT {a b : Int} (h : a < b) : (a < b) = True := eq_true h
theorem ltF {a b : Int} (h : ¬ a < b) : (a < b) = False := eq_false h
theorem leT {a b : Int} (h : a ≤ b) : (a ≤ b) = True := eq_true h
theorem leF {a b : Int} (h : ¬ a ≤ b) : (a ≤ b) = False := eq_false h
theorem gtT {a b : Int} (h : a > b) : (a > b) = True := eq_true h
theorem gtF {a b : Int} (h : ¬ a > b) : (a > b) = False := eq_false h
theorem geT {a b : Int} (h : a ≥ b) : (a ≥ b) = True := eq_true h
theorem geF {a b : Int} (h : ¬ a ≥ b) : (a ≥ b) = False := eq_false h
theorem beT {a b : Int} (h : a = b) : (a == b) = true := by simp [h]
theorem beF {a b : Int} (h : ¬ a = b) : (a == b) = false := by simp [h]
theorem neT {a b : Int} (h : ¬ a = b) : (a != b) = true := by simp [h]
theorem neF {a b : Int} (h : a = b) : (a != b) = false := by simp [h]
theorem Ntk {a b : Nat} (h : a < b) : (a < b) = True := eq_true h
theorem Ntj {a b : Nat} (h : ¬ a < b) : (a < b) = False := eq_false h
theorem Nti {a b : Nat} (h : a ≤ b) : (a ≤ b) = True := eq_true h
theorem leFn {a b : Nat} (h : ¬ a ≤ b) : (a ≤ b) = False := eq_false h
theorem Nnd (n m : Nat) : (n : Int).tdiv (m : Int) = ((n / m : Nat) : Int) := Eq.trans rfl rfl
theorem Nne (n m : Nat) : (n : Int).tmod (m : Int) = ((n % m : Nat) : Int) := Eq.trans rfl rfl
theorem Nm6 (a b : Nat) : (a : Int) + (b : Int) = ((a + b : Nat) : Int) := Eq.trans rfl rfl
theorem Ndc (a b : Nat) : ((a : Int) - (b : Int)).toNat = a - b := by omega
theorem NdX (a b : Nat) : ((a : Int) + (b : Int)).toNat = a + b := by omega
theorem Xa : type_of% @NfD ∧ type_of% @NdL ∧ type_of% @ltT ∧ type_of% @ltF ∧ type_of% @leT ∧ type_of% @leF ∧ type_of% @gtT ∧ type_of% @gtF ∧ type_of% @geT ∧ type_of% @geF ∧ type_of% @beT ∧ type_of% @beF ∧ type_of% @neT ∧ type_of% @neF ∧ type_of% @Nnd ∧ type_of% @Nne ∧ type_of% @NaM ∧ type_of% @Nnh ∧ type_of% @Nng ∧ type_of% @NqZ ∧ type_of% @false_and ∧ type_of% @and_false ∧ type_of% @not_false_eq_true ∧ type_of% @NdX ∧ type_of% @Ndc ∧ type_of% @Nm6 ∧ type_of% @Nat.mul_one ∧ type_of% @Nat.zero_add :=
 ⟨@NfD, @NdL, @ltT, @ltF, @leT, @leF, @gtT, @gtF, @geT, @geF, @beT, @beF, @neT, @neF, @Nnd, @Nne, @NaM, @Nnh, @Nng, @NqZ, @false_and, @and_false, @not_false_eq_true, @NdX, @Ndc, @Nm6, @Nat.mul_one, @Nat.zero_add⟩
theorem Xn : type_of% @Ntk ∧ type_of% @Ntj ∧ type_of% @Nti ∧ type_of% @leFn := ⟨@Ntk, @Ntj, @Nti, @leFn⟩
end Go.Pe
