/-
 Numbers in runs over plain data: rules that decide tests and drop wraps by linear arithmetic. No condition; nothing of the program.
-/
import Derived.Test.YtaepgkghgcchnaaDoorPe5
set_option linter.unusedVariables false
set_option linter.unusedSimpArgs false
namespace Go.Pe
open Go

theorem Ngc (n : Nat) : Int.ofNat n = (n : Int) := Eq.trans rfl rfl
theorem Nd5 (n : Nat) : Int.negSucc n = -((n + 1 : Nat) : Int) := Eq.trans rfl rfl
theorem ltT {a b : Int} (h : a < b) : (a < b) = True := eq_true h
theorem ltF {a b : Int} (h : ¬ a < b) : (a < b) = False := eq_false h
theorem leT {a b : Int} (h : a ≤ b) : (a ≤ b) = True := eq_true h
theorem leF {a b : Int} (h : ¬ a ≤ b) : (a ≤ b) = False := eq_false h
theorem gtT {a b : Int} (h : a > b) : (a > b) = True := eq_true h
theorem gtF {a b : Int} (h : ¬ a > b) : (a > b) = False := eq_false h
theorem geT {a b : Int} (h : a ≥ b) : (a ≥ b) = True := eq_true h
theorem geF {a b : Int} (h : ¬ a ≥ b) : (a ≥ b) = False := eq_false h
theorem beT {a b : Int} (h : a = b) : (a == b) = true := by simp [h]
theorem beF {a b : Int} (h : ¬ a = b) : (a == b) = false := by simp [h]
theorem neT {a b : Int} (h : ¬ a = b) : (a != b) = true := by simp [h]
theorem neF {a b : Int} (h : a = b) : (a != b) = false := by simp [h]
theorem NlR {a b : Nat} (h : a < b) : (a < b) = True := eq_true h
theorem NlQ {a b : Nat} (h : ¬ a < b) : (a < b) = False := eq_false h
theorem NlP {a b : Nat} (h : a ≤ b) : (a ≤ b) = True := eq_true h
theorem leFn {a b : Nat} (h : ¬ a ≤ b) : (a ≤ b) = False := eq_false h
theorem Nhy (n m : Nat) : (n : Int).tdiv (m : Int) = ((n / m : Nat) : Int) := Eq.trans rfl rfl
theorem Nhz (n m : Nat) : (n : Int).tmod (m : Int) = ((n % m : Nat) : Int) := Eq.trans rfl rfl
theorem Nhs (a b : Nat) : (a : Int) + (b : Int) = ((a + b : Nat) : Int) := Eq.trans rfl rfl
theorem Ndu (a b : Nat) : ((a : Int) - (b : Int)).toNat = a - b := by omega
theorem Nej (a b : Nat) : ((a : Int) + (b : Int)).toNat = a + b := by omega
theorem Xa : type_of% @Ngc ∧ type_of% @Nd5 ∧ type_of% @ltT ∧ type_of% @ltF ∧ type_of% @leT ∧ type_of% @leF ∧ type_of% @gtT ∧ type_of% @gtF ∧ type_of% @geT ∧ type_of% @geF ∧ type_of% @beT ∧ type_of% @beF ∧ type_of% @neT ∧ type_of% @neF ∧ type_of% @Nhy ∧ type_of% @Nhz ∧ type_of% @NaM ∧ type_of% @NhC ∧ type_of% @NhB ∧ type_of% @NjM ∧ type_of% @false_and ∧ type_of% @and_false ∧ type_of% @not_false_eq_true ∧ type_of% @Nej ∧ type_of% @Ndu ∧ type_of% @Nhs ∧ type_of% @Nat.mul_one ∧ type_of% @Nat.zero_add :=
 ⟨@Ngc, @Nd5, @ltT, @ltF, @leT, @leF, @gtT, @gtF, @geT, @geF, @beT, @beF, @neT, @neF, @Nhy, @Nhz, @NaM, @NhC, @NhB, @NjM, @false_and, @and_false, @not_false_eq_true, @Nej, @Ndu, @Nhs, @Nat.mul_one, @Nat.zero_add⟩
theorem Xn : type_of% @NlR ∧ type_of% @NlQ ∧ type_of% @NlP ∧ type_of% @leFn := ⟨@NlR, @NlQ, @NlP, @leFn⟩
end Go.Pe
