/-
 Numbers in runs over plain data: rules that decide tests and drop wraps by linear arithmetic. No condition; nothing of the program.
-/
import Derived.Test.YtadblicfhhllgaaPe5
set_option linter.unusedVariables false
set_option linter.unusedSimpArgs false
namespace Go.Pe
open Go

theorem NbT (n : Nat) : Int.ofNat n = (n : Int) := Eq.trans rfl rfl
theorem NgK (n : Nat) : Int.negSucc n = -((n + 1 : Nat) : Int) := Eq.trans rfl rfl
theorem ltT {a b : Int} (h : a < b) : (a < b) = True := eq_true h
theorem ltF {a b : Int} (h : ¬ a < b) : (a < b) = False := eq_false h
theorem leT {a b : Int} (h : a ≤ b) : (a ≤ b) = True := eq_true h
theorem leF {a b : Int} (h : ¬ a ≤ b) : (a ≤ b) = False := eq_false h
theorem gtT {a b : Int} (h : a > b) : (a > b) = True := eq_true h
theorem gtF {a b : Int} (h : ¬ a > b) : (a > b) = False := eq_false h
theorem geT {a b : Int} (h : a ≥ b) : (a ≥ b) = True := eq_true h
theorem geF {a b : Int} (h : ¬ a ≥ b) : (a ≥ b) = False := eq_false h
theorem beT {a b : Int} (h : a = b) : (a == b) = true := by simp [h]
theorem beF {a b : Int} (h : ¬ a = b) : (a == b) = false := by simp [h]
theorem neT {a b : Int} (h : ¬ a = b) : (a != b) = true := by simp [h]
theorem neF {a b : Int} (h : a = b) : (a != b) = false := by simp [h]
theorem Np3 {a b : Nat} (h : a < b) : (a < b) = True := eq_true h
theorem Np7 {a b : Nat} (h : ¬ a < b) : (a < b) = False := eq_false h
theorem Nqm {a b : Nat} (h : a ≤ b) : (a ≤ b) = True := eq_true h
theorem leFn {a b : Nat} (h : ¬ a ≤ b) : (a ≤ b) = False := eq_false h
theorem Nmm (n m : Nat) : (n : Int).tdiv (m : Int) = ((n / m : Nat) : Int) := Eq.trans rfl rfl
theorem Nmc (n m : Nat) : (n : Int).tmod (m : Int) = ((n % m : Nat) : Int) := Eq.trans rfl rfl
theorem Nma (a b : Nat) : (a : Int) + (b : Int) = ((a + b : Nat) : Int) := Eq.trans rfl rfl
theorem Nfj (a b : Nat) : ((a : Int) - (b : Int)).toNat = a - b := by omega
theorem Ngh (a b : Nat) : ((a : Int) + (b : Int)).toNat = a + b := by omega
theorem Xa : type_of% @NbT ∧ type_of% @NgK ∧ type_of% @ltT ∧ type_of% @ltF ∧ type_of% @leT ∧ type_of% @leF ∧ type_of% @gtT ∧ type_of% @gtF ∧ type_of% @geT ∧ type_of% @geF ∧ type_of% @beT ∧ type_of% @beF ∧ type_of% @neT ∧ type_of% @neF ∧ type_of% @Nmm ∧ type_of% @Nmc ∧ type_of% @NaI ∧ type_of% @NbU ∧ type_of% @NdS ∧ type_of% @NkR ∧ type_of% @false_and ∧ type_of% @and_false ∧ type_of% @not_false_eq_true ∧ type_of% @Ngh ∧ type_of% @Nfj ∧ type_of% @Nma ∧ type_of% @Nat.mul_one ∧ type_of% @Nat.zero_add :=
 ⟨@NbT, @NgK, @ltT, @ltF, @leT, @leF, @gtT, @gtF, @geT, @geF, @beT, @beF, @neT, @neF, @Nmm, @Nmc, @NaI, @NbU, @NdS, @NkR, @false_and, @and_false, @not_false_eq_true, @Ngh, @Nfj, @Nma, @Nat.mul_one, @Nat.zero_add⟩
theorem Xn : type_of% @Np3 ∧ type_of% @Np7 ∧ type_of% @Nqm ∧ type_of% @leFn := ⟨@Np3, @Np7, @Nqm, @leFn⟩
theorem Xl : type_of% @NnA ∧ type_of% @NnT ∧ type_of% @NkK ∧ type_of% @Nde ∧ type_of% @Nc6 ∧ type_of% @Nja ∧ type_of% @Z0L_ ∧ type_of% @NcW ∧ type_of% @NnD ∧ type_of% @Nl3 ∧ type_of% @Nn8 ∧ type_of% @Nn3 ∧ type_of% @Nn7 ∧ type_of% @NnX ∧ type_of% @Nn0 ∧ type_of% @NnN ∧ type_of% @NnV ∧ type_of% @Nn9 ∧ type_of% @NnZ ∧ type_of% @NnH ∧ type_of% @NnK ∧ type_of% @Nn6 ∧ type_of% @NnE ∧ type_of% @Nnz ∧ type_of% @NnJ ∧ type_of% @NnU ∧ type_of% @NnO ∧ type_of% @NnI ∧ type_of% @NnC ∧ type_of% @NnW ∧ type_of% @Nnk ∧ type_of% @NmB ∧ type_of% @Nn4 ∧ type_of% @NnQ ∧ type_of% @Nm9 ∧ type_of% @NmW ∧ type_of% @NnR ∧ type_of% @Nn5 ∧ type_of% @List.take_succ_cons.{0} ∧ type_of% @List.take_zero.{0} ∧ type_of% @List.drop_succ_cons.{0} ∧ type_of% @List.drop_zero.{0} ∧ type_of% @List.cons_append.{0} ∧ type_of% @List.nil_append.{0} ∧ type_of% @List.append_nil.{0} ∧ type_of% @List.all_cons.{0} ∧ type_of% @List.all_nil.{0} ∧ type_of% @Bool.and_self ∧ type_of% @Bool.and_true ∧ type_of% @Bool.true_and ∧ type_of% @Nat.zero_add ∧ type_of% @Nat.add_zero ∧ type_of% @Nat.le_refl ∧ type_of% @List.getElem?_cons_zero.{0} ∧ type_of% @List.getElem?_cons_succ.{0} ∧ type_of% @Nat.add_left_cancel_iff ∧ type_of% @Nat.left_eq_add ∧ type_of% @Nat.add_eq_left ∧ type_of% @not_false_eq_true ∧ type_of% @NnB ∧ type_of% @NnS ∧ type_of% @NmO ∧ type_of% @Z1k_ :=
 ⟨@NnA, @NnT, @NkK, @Nde, @Nc6, @Nja, @Z0L_, @NcW, @NnD, @Nl3, @Nn8, @Nn3, @Nn7, @NnX, @Nn0, @NnN, @NnV, @Nn9, @NnZ, @NnH, @NnK, @Nn6, @NnE, @Nnz, @NnJ, @NnU, @NnO, @NnI, @NnC, @NnW, @Nnk, @NmB, @Nn4, @NnQ, @Nm9, @NmW, @NnR, @Nn5, @List.take_succ_cons.{0}, @List.take_zero.{0}, @List.drop_succ_cons.{0}, @List.drop_zero.{0}, @List.cons_append.{0}, @List.nil_append.{0}, @List.append_nil.{0}, @List.all_cons.{0}, @List.all_nil.{0}, @Bool.and_self, @Bool.and_true, @Bool.true_and, @Nat.zero_add, @Nat.add_zero, @Nat.le_refl, @List.getElem?_cons_zero.{0}, @List.getElem?_cons_succ.{0}, @Nat.add_left_cancel_iff, @Nat.left_eq_add, @Nat.add_eq_left, @not_false_eq_true, @NnB, @NnS, @NmO, @Z1k_⟩
theorem Xf : type_of% @NnL ∧ type_of% @NnG ∧ type_of% @NnA ∧ type_of% @NnT ∧ type_of% @NkK ∧ type_of% @Nde ∧ type_of% @Nc6 ∧ type_of% @Nja ∧ type_of% @Z0L_ ∧ type_of% @NcW ∧ type_of% @NnD ∧ type_of% @Nl3 ∧ type_of% @Nn8 ∧ type_of% @Nn3 ∧ type_of% @Nn7 ∧ type_of% @NnX ∧ type_of% @Nn0 ∧ type_of% @NnN ∧ type_of% @NnV ∧ type_of% @Nn9 ∧ type_of% @NnZ ∧ type_of% @NnH ∧ type_of% @NnK ∧ type_of% @Nn6 ∧ type_of% @NnE ∧ type_of% @Nnz ∧ type_of% @NnJ ∧ type_of% @NnU ∧ type_of% @NnO ∧ type_of% @NnI ∧ type_of% @NnC ∧ type_of% @NnW ∧ type_of% @Nnk ∧ type_of% @NmB ∧ type_of% @Nn4 ∧ type_of% @NnQ ∧ type_of% @Nm9 ∧ type_of% @NmW ∧ type_of% @NnR ∧ type_of% @Nn5 ∧ type_of% @List.take_succ_cons.{0} ∧ type_of% @List.take_zero.{0} ∧ type_of% @List.drop_succ_cons.{0} ∧ type_of% @List.drop_zero.{0} ∧ type_of% @List.cons_append.{0} ∧ type_of% @List.nil_append.{0} ∧ type_of% @List.append_nil.{0} ∧ type_of% @List.all_cons.{0} ∧ type_of% @List.all_nil.{0} ∧ type_of% @Bool.and_self ∧ type_of% @Bool.and_true ∧ type_of% @Bool.true_and ∧ type_of% @Nat.zero_add ∧ type_of% @Nat.add_zero ∧ type_of% @Nat.le_refl ∧ type_of% @List.getElem?_cons_zero.{0} ∧ type_of% @List.getElem?_cons_succ.{0} ∧ type_of% @Nat.add_left_cancel_iff ∧ type_of% @Nat.left_eq_add ∧ type_of% @Nat.add_eq_left ∧ type_of% @not_false_eq_true ∧ type_of% @NnB ∧ type_of% @NnS ∧ type_of% @NmO ∧ type_of% @Z1k_ :=
 ⟨@NnL, @NnG, @NnA, @NnT, @NkK, @Nde, @Nc6, @Nja, @Z0L_, @NcW, @NnD, @Nl3, @Nn8, @Nn3, @Nn7, @NnX, @Nn0, @NnN, @NnV, @Nn9, @NnZ, @NnH, @NnK, @Nn6, @NnE, @Nnz, @NnJ, @NnU, @NnO, @NnI, @NnC, @NnW, @Nnk, @NmB, @Nn4, @NnQ, @Nm9, @NmW, @NnR, @Nn5, @List.take_succ_cons.{0}, @List.take_zero.{0}, @List.drop_succ_cons.{0}, @List.drop_zero.{0}, @List.cons_append.{0}, @List.nil_append.{0}, @List.append_nil.{0}, @List.all_cons.{0}, @List.all_nil.{0}, @Bool.and_self, @Bool.and_true, @Bool.true_and, @Nat.zero_add, @Nat.add_zero, @Nat.le_refl, @List.getElem?_cons_zero.{0}, @List.getElem?_cons_succ.{0}, @Nat.add_left_cancel_iff, @Nat.left_eq_add, @Nat.add_eq_left, @not_false_eq_true, @NnB, @NnS, @NmO, @Z1k_⟩
end Go.Pe
