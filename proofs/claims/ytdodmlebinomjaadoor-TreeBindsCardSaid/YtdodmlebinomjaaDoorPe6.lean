/-
 Numbers in runs over plain data: rules that decide tests and drop wraps by linear arithmetic. No condition; nothing of the program.
-/
import Derived.Test.YtdodmlebinomjaaDoorPe5
set_option linter.unusedVariables false
set_option linter.unusedSimpArgs false
namespace Go.Pe
open Go

theorem Nfp (n : Nat) : Int.ofNat n = (n : Int) := Eq.trans rfl rfl
theorem NdB (n : Nat) : Int.negSucc n = -((n + 1 : Nat) : Int) := Eq.trans rfl rfl
theorem ltT {a b : Int} (h : a < b) : (a < b) = True := eq_true h
theorem ltF {a b : Int} (h : ¬ a < b) : (a < b) = False := eq_false h
theorem leT {a b : Int} (h : a ≤ b) : (a ≤ b) = True := eq_true h
theorem leF {a b : Int} (h : ¬ a ≤ b) : (a ≤ b) = False := eq_false h
theorem gtT {a b : Int} (h : a > b) : (a > b) = True := eq_true h
theorem gtF {a b : Int} (h : ¬ a > b) : (a > b) = False := eq_false h
theorem geT {a b : Int} (h : a ≥ b) : (a ≥ b) = True := eq_true h
theorem geF {a b : Int} (h : ¬ a ≥ b) : (a ≥ b) = False := eq_false h
theorem beT {a b : Int} (h : a = b) : (a == b) = true := by simp [h]
theorem beF {a b : Int} (h : ¬ a = b) : (a == b) = false := by simp [h]
theorem neT {a b : Int} (h : ¬ a = b) : (a != b) = true := by simp [h]
theorem neF {a b : Int} (h : a = b) : (a != b) = false := by simp [h]
theorem Nky {a b : Nat} (h : a < b) : (a < b) = True := eq_true h
theorem Nkx {a b : Nat} (h : ¬ a < b) : (a < b) = False := eq_false h
theorem Nkw {a b : Nat} (h : a ≤ b) : (a ≤ b) = True := eq_true h
theorem leFn {a b : Nat} (h : ¬ a ≤ b) : (a ≤ b) = False := eq_false h
theorem NgE (n m : Nat) : (n : Int).tdiv (m : Int) = ((n / m : Nat) : Int) := Eq.trans rfl rfl
theorem NgF (n m : Nat) : (n : Int).tmod (m : Int) = ((n % m : Nat) : Int) := Eq.trans rfl rfl
theorem Ngy (a b : Nat) : (a : Int) + (b : Int) = ((a + b : Nat) : Int) := Eq.trans rfl rfl
theorem Nc7 (a b : Nat) : ((a : Int) - (b : Int)).toNat = a - b := by omega
theorem NdN (a b : Nat) : ((a : Int) + (b : Int)).toNat = a + b := by omega
theorem Xa : type_of% @Nfp ∧ type_of% @NdB ∧ type_of% @ltT ∧ type_of% @ltF ∧ type_of% @leT ∧ type_of% @leF ∧ type_of% @gtT ∧ type_of% @gtF ∧ type_of% @geT ∧ type_of% @geF ∧ type_of% @beT ∧ type_of% @beF ∧ type_of% @neT ∧ type_of% @neF ∧ type_of% @NgE ∧ type_of% @NgF ∧ type_of% @NaT ∧ type_of% @NgI ∧ type_of% @NgH ∧ type_of% @Niy ∧ type_of% @false_and ∧ type_of% @and_false ∧ type_of% @not_false_eq_true ∧ type_of% @NdN ∧ type_of% @Nc7 ∧ type_of% @Ngy ∧ type_of% @Nat.mul_one ∧ type_of% @Nat.zero_add :=
 ⟨@Nfp, @NdB, @ltT, @ltF, @leT, @leF, @gtT, @gtF, @geT, @geF, @beT, @beF, @neT, @neF, @NgE, @NgF, @NaT, @NgI, @NgH, @Niy, @false_and, @and_false, @not_false_eq_true, @NdN, @Nc7, @Ngy, @Nat.mul_one, @Nat.zero_add⟩
theorem Xn : type_of% @Nky ∧ type_of% @Nkx ∧ type_of% @Nkw ∧ type_of% @leFn := ⟨@Nky, @Nkx, @Nkw, @leFn⟩
end Go.Pe
