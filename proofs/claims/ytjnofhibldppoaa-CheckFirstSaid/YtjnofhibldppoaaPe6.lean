/-
 Numbers in runs over plain data: rules that decide tests and drop wraps by linear arithmetic. No condition; nothing of the program.
-/
import Derived.Test.YtjnofhibldppoaaPe4
set_option linter.unusedVariables false
set_option linter.unusedSimpArgs false
namespace Go.Pe
open Go

end Go.Pe
namespace Go.Pe
open Go

theorem Ng0 (n : Nat) : Int.ofNat n = (n : Int) := Eq.trans rfl rfl
theorem NdX (n : Nat) : Int.negSucc n = -((n + 1 : Nat) : Int) := Eq.trans rfl rfl
theorem ltT {a b : Int} (h : a < b) : (a < b) = True := eq_true h
theorem ltF {a b : Int} (h : ¬ a < b) : (a < b) = False := eq_false h
theorem leT {a b : Int} (h : a ≤ b) : (a ≤ b) = True := eq_true h
theorem leF {a b : Int} (h : ¬ a ≤ b) : (a ≤ b) = False := eq_false h
theorem gtT {a b : Int} (h : a > b) : (a > b) = True := eq_true h
theorem gtF {a b : Int} (h : ¬ a > b) : (a > b) = False := eq_false h
theorem geT {a b : Int} (h : a ≥ b) : (a ≥ b) = True := eq_true h
theorem geF {a b : Int} (h : ¬ a ≥ b) : (a ≥ b) = False := eq_false h
theorem beT {a b : Int} (h : a = b) : (a == b) = true := by simp [h]
theorem beF {a b : Int} (h : ¬ a = b) : (a == b) = false := by simp [h]
theorem neT {a b : Int} (h : ¬ a = b) : (a != b) = true := by simp [h]
theorem neF {a b : Int} (h : a = b) : (a != b) = false := by simp [h]
theorem Nmj {a b : Nat} (h : a < b) : (a < b) = True := eq_true h
theorem NmJ {a b : Nat} (h : ¬ a < b) : (a < b) = False := eq_false h
theorem Nm9 {a b : Nat} (h : a ≤ b) : (a ≤ b) = True := eq_true h
theorem leFn {a b : Nat} (h : ¬ a ≤ b) : (a ≤ b) = False := eq_false h
theorem Nja (n m : Nat) : (n : Int).tdiv (m : Int) = ((n / m : Nat) : Int) := Eq.trans rfl rfl
theorem Ni9 (n m : Nat) : (n : Int).tmod (m : Int) = ((n % m : Nat) : Int) := Eq.trans rfl rfl
theorem Ni8 (a b : Nat) : (a : Int) + (b : Int) = ((a + b : Nat) : Int) := Eq.trans rfl rfl
theorem Ndl (a b : Nat) : ((a : Int) - (b : Int)).toNat = a - b := by omega
theorem Nek (a b : Nat) : ((a : Int) + (b : Int)).toNat = a + b := by omega
theorem Xa : type_of% @Ng0 ∧ type_of% @NdX ∧ type_of% @ltT ∧ type_of% @ltF ∧ type_of% @leT ∧ type_of% @leF ∧ type_of% @gtT ∧ type_of% @gtF ∧ type_of% @geT ∧ type_of% @geF ∧ type_of% @beT ∧ type_of% @beF ∧ type_of% @neT ∧ type_of% @neF ∧ type_of% @Nja ∧ type_of% @Ni9 ∧ type_of% @Nbc ∧ type_of% @Ni3 ∧ type_of% @Njd ∧ type_of% @NkX ∧ type_of% @false_and ∧ type_of% @and_false ∧ type_of% @not_false_eq_true ∧ type_of% @Nek ∧ type_of% @Ndl ∧ type_of% @Ni8 ∧ type_of% @Nat.mul_one ∧ type_of% @Nat.zero_add :=
 ⟨@Ng0, @NdX, @ltT, @ltF, @leT, @leF, @gtT, @gtF, @geT, @geF, @beT, @beF, @neT, @neF, @Nja, @Ni9, @Nbc, @Ni3, @Njd, @NkX, @false_and, @and_false, @not_false_eq_true, @Nek, @Ndl, @Ni8, @Nat.mul_one, @Nat.zero_add⟩
theorem Xn : type_of% @Nmj ∧ type_of% @NmJ ∧ type_of% @Nm9 ∧ type_of% @leFn := ⟨@Nmj, @NmJ, @Nm9, @leFn⟩
end Go.Pe
