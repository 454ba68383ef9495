/-
 Numbers in runs over plain data: rules that decide tests and drop wraps by linear arithmetic. No condition; nothing of the program.
-/
import Derived.Test.YtjnofhibldppoaaPe5
set_option linter.unusedVariables false
set_option linter.unusedSimpArgs false
namespace Go.Pe
open Go

theorem Ngs (n : Nat) : Int.ofNat n = (n : Int) := Eq.trans rfl rfl
theorem NdZ (n : Nat) : Int.negSucc n = -((n + 1 : Nat) : Int) := Eq.trans rfl rfl
theorem ltT {a b : Int} (h : a < b) : (a < b) = True := eq_true h
theorem ltF {a b : Int} (h : ¬ a < b) : (a < b) = False := eq_false h
theorem leT {a b : Int} (h : a ≤ b) : (a ≤ b) = True := eq_true h
theorem leF {a b : Int} (h : ¬ a ≤ b) : (a ≤ b) = False := eq_false h
theorem gtT {a b : Int} (h : a > b) : (a > b) = True := eq_true h
theorem gtF {a b : Int} (h : ¬ a > b) : (a > b) = False := eq_false h
theorem geT {a b : Int} (h : a ≥ b) : (a ≥ b) = True := eq_true h
theorem geF {a b : Int} (h : ¬ a ≥ b) : (a ≥ b) = False := eq_false h
theorem beT {a b : Int} (h : a = b) : (a == b) = true := by simp [h]
theorem beF {a b : Int} (h : ¬ a = b) : (a == b) = false := by simp [h]
theorem neT {a b : Int} (h : ¬ a = b) : (a != b) = true := by simp [h]
theorem neF {a b : Int} (h : a = b) : (a != b) = false := by simp [h]
theorem Nmd {a b : Nat} (h : a < b) : (a < b) = True := eq_true h
theorem Nlc {a b : Nat} (h : ¬ a < b) : (a < b) = False := eq_false h
theorem Nls {a b : Nat} (h : a ≤ b) : (a ≤ b) = True := eq_true h
theorem leFn {a b : Nat} (h : ¬ a ≤ b) : (a ≤ b) = False := eq_false h
theorem NhT (n m : Nat) : (n : Int).tdiv (m : Int) = ((n / m : Nat) : Int) := Eq.trans rfl rfl
theorem NhL (n m : Nat) : (n : Int).tmod (m : Int) = ((n % m : Nat) : Int) := Eq.trans rfl rfl
theorem NhK (a b : Nat) : (a : Int) + (b : Int) = ((a + b : Nat) : Int) := Eq.trans rfl rfl
theorem Ndn (a b : Nat) : ((a : Int) - (b : Int)).toNat = a - b := by omega
theorem Nd5 (a b : Nat) : ((a : Int) + (b : Int)).toNat = a + b := by omega
theorem Xa : type_of% @Ngs ∧ type_of% @NdZ ∧ type_of% @ltT ∧ type_of% @ltF ∧ type_of% @leT ∧ type_of% @leF ∧ type_of% @gtT ∧ type_of% @gtF ∧ type_of% @geT ∧ type_of% @geF ∧ type_of% @beT ∧ type_of% @beF ∧ type_of% @neT ∧ type_of% @neF ∧ type_of% @NhT ∧ type_of% @NhL ∧ type_of% @Nbe ∧ type_of% @NhO ∧ type_of% @NhE ∧ type_of% @Njw ∧ type_of% @false_and ∧ type_of% @and_false ∧ type_of% @not_false_eq_true ∧ type_of% @Nd5 ∧ type_of% @Ndn ∧ type_of% @NhK ∧ type_of% @Nat.mul_one ∧ type_of% @Nat.zero_add :=
 ⟨@Ngs, @NdZ, @ltT, @ltF, @leT, @leF, @gtT, @gtF, @geT, @geF, @beT, @beF, @neT, @neF, @NhT, @NhL, @Nbe, @NhO, @NhE, @Njw, @false_and, @and_false, @not_false_eq_true, @Nd5, @Ndn, @NhK, @Nat.mul_one, @Nat.zero_add⟩
theorem Xn : type_of% @Nmd ∧ type_of% @Nlc ∧ type_of% @Nls ∧ type_of% @leFn := ⟨@Nmd, @Nlc, @Nls, @leFn⟩
end Go.Pe
