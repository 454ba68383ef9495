/-
 Numbers in runs over plain data: rules that decide tests and drop wraps by linear arithmetic. No condition; nothing of the program.
-/
import Derived.Test.YtnnokaklkegngaaDoorPe5
set_option linter.unusedVariables false
set_option linter.unusedSimpArgs false
namespace Go.Pe
open Go

theorem Nff (n : Nat) : Int.ofNat n = (n : Int) := Eq.trans rfl rfl
theorem NdL (n : Nat) : Int.negSucc n = -((n + 1 : Nat) : Int) := Eq.trans rfl rfl
theorem ltT {a b : Int} (h : a < b) : (a < b) = True := eq_true h
theorem ltF {a b : Int} (h : ¬ a < b) : (a < b) = False := eq_false h
theorem leT {a b : Int} (h : a ≤ b) : (a ≤ b) = True := eq_true h
theorem leF {a b : Int} (h : ¬ a ≤ b) : (a ≤ b) = False := eq_false h
theorem gtT {a b : Int} (h : a > b) : (a > b) = True := eq_true h
theorem gtF {a b : Int} (h : ¬ a > b) : (a > b) = False := eq_false h
theorem geT {a b : Int} (h : a ≥ b) : (a ≥ b) = True := eq_true h
theorem geF {a b : Int} (h : ¬ a ≥ b) : (a ≥ b) = False := eq_false h
theorem beT {a b : Int} (h : a = b) : (a == b) = true := by simp [h]
theorem beF {a b : Int} (h : ¬ a = b) : (a == b) = false := by simp [h]
theorem neT {a b : Int} (h : ¬ a = b) : (a != b) = true := by simp [h]
theorem neF {a b : Int} (h : a = b) : (a != b) = false := by simp [h]
theorem NjW {a b : Nat} (h : a < b) : (a < b) = True := eq_true h
theorem Njq {a b : Nat} (h : ¬ a < b) : (a < b) = False := eq_false h
theorem NjK {a b : Nat} (h : a ≤ b) : (a ≤ b) = True := eq_true h
theorem leFn {a b : Nat} (h : ¬ a ≤ b) : (a ≤ b) = False := eq_false h
theorem Ngw (n m : Nat) : (n : Int).tdiv (m : Int) = ((n / m : Nat) : Int) := Eq.trans rfl rfl
theorem Ngs (n m : Nat) : (n : Int).tmod (m : Int) = ((n % m : Nat) : Int) := Eq.trans rfl rfl
theorem Ngv (a b : Nat) : (a : Int) + (b : Int) = ((a + b : Nat) : Int) := Eq.trans rfl rfl
theorem Nda (a b : Nat) : ((a : Int) - (b : Int)).toNat = a - b := by omega
theorem NdN (a b : Nat) : ((a : Int) + (b : Int)).toNat = a + b := by omega
theorem Xa : type_of% @Nff ∧ type_of% @NdL ∧ type_of% @ltT ∧ type_of% @ltF ∧ type_of% @leT ∧ type_of% @leF ∧ type_of% @gtT ∧ type_of% @gtF ∧ type_of% @geT ∧ type_of% @geF ∧ type_of% @beT ∧ type_of% @beF ∧ type_of% @neT ∧ type_of% @neF ∧ type_of% @Ngw ∧ type_of% @Ngs ∧ type_of% @Na2 ∧ type_of% @NgH ∧ type_of% @Ngy ∧ type_of% @NhZ ∧ type_of% @false_and ∧ type_of% @and_false ∧ type_of% @not_false_eq_true ∧ type_of% @NdN ∧ type_of% @Nda ∧ type_of% @Ngv ∧ type_of% @Nat.mul_one ∧ type_of% @Nat.zero_add :=
 ⟨@Nff, @NdL, @ltT, @ltF, @leT, @leF, @gtT, @gtF, @geT, @geF, @beT, @beF, @neT, @neF, @Ngw, @Ngs, @Na2, @NgH, @Ngy, @NhZ, @false_and, @and_false, @not_false_eq_true, @NdN, @Nda, @Ngv, @Nat.mul_one, @Nat.zero_add⟩
theorem Xn : type_of% @NjW ∧ type_of% @Njq ∧ type_of% @NjK ∧ type_of% @leFn := ⟨@NjW, @Njq, @NjK, @leFn⟩
end Go.Pe
