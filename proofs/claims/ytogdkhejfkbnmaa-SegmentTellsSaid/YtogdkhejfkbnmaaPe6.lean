/-
 Numbers in runs over plain data: rules that decide tests and drop wraps by linear arithmetic. No condition; nothing of the program.
-/
import Derived.Test.YtogdkhejfkbnmaaPe5
set_option linter.unusedVariables false
set_option linter.unusedSimpArgs false
namespace Go.Pe
open Go

theorem NbX (n : Nat) : Int.ofNat n = (n : Int) := Eq.trans rfl rfl
theorem NhW (n : Nat) : Int.negSucc n = -((n + 1 : Nat) : Int) := Eq.trans rfl rfl
theorem ltT {a b : Int} (h : a < b) : (a < b) = True := eq_true h
theorem ltF {a b : Int} (h : ¬ a < b) : (a < b) = False := eq_false h
theorem leT {a b : Int} (h : a ≤ b) : (a ≤ b) = True := eq_true h
theorem leF {a b : Int} (h : ¬ a ≤ b) : (a ≤ b) = False := eq_false h
theorem gtT {a b : Int} (h : a > b) : (a > b) = True := eq_true h
theorem gtF {a b : Int} (h : ¬ a > b) : (a > b) = False := eq_false h
theorem geT {a b : Int} (h : a ≥ b) : (a ≥ b) = True := eq_true h
theorem geF {a b : Int} (h : ¬ a ≥ b) : (a ≥ b) = False := eq_false h
theorem beT {a b : Int} (h : a = b) : (a == b) = true := by simp [h]
theorem beF {a b : Int} (h : ¬ a = b) : (a == b) = false := by simp [h]
theorem neT {a b : Int} (h : ¬ a = b) : (a != b) = true := by simp [h]
theorem neF {a b : Int} (h : a = b) : (a != b) = false := by simp [h]
theorem Nte {a b : Nat} (h : a < b) : (a < b) = True := eq_true h
theorem Ns6 {a b : Nat} (h : ¬ a < b) : (a < b) = False := eq_false h
theorem Ns3 {a b : Nat} (h : a ≤ b) : (a ≤ b) = True := eq_true h
theorem leFn {a b : Nat} (h : ¬ a ≤ b) : (a ≤ b) = False := eq_false h
theorem Nos (n m : Nat) : (n : Int).tdiv (m : Int) = ((n / m : Nat) : Int) := Eq.trans rfl rfl
theorem Noy (n m : Nat) : (n : Int).tmod (m : Int) = ((n % m : Nat) : Int) := Eq.trans rfl rfl
theorem Non (a b : Nat) : (a : Int) + (b : Int) = ((a + b : Nat) : Int) := Eq.trans rfl rfl
theorem NfX (a b : Nat) : ((a : Int) - (b : Int)).toNat = a - b := by omega
theorem Nhi (a b : Nat) : ((a : Int) + (b : Int)).toNat = a + b := by omega
theorem Xa : type_of% @NbX ∧ type_of% @NhW ∧ type_of% @ltT ∧ type_of% @ltF ∧ type_of% @leT ∧ type_of% @leF ∧ type_of% @gtT ∧ type_of% @gtF ∧ type_of% @geT ∧ type_of% @geF ∧ type_of% @beT ∧ type_of% @beF ∧ type_of% @neT ∧ type_of% @neF ∧ type_of% @Nos ∧ type_of% @Noy ∧ type_of% @NaK ∧ type_of% @Nbm ∧ type_of% @Neg ∧ type_of% @Nmm ∧ type_of% @false_and ∧ type_of% @and_false ∧ type_of% @not_false_eq_true ∧ type_of% @Nhi ∧ type_of% @NfX ∧ type_of% @Non ∧ type_of% @Nat.mul_one ∧ type_of% @Nat.zero_add :=
 ⟨@NbX, @NhW, @ltT, @ltF, @leT, @leF, @gtT, @gtF, @geT, @geF, @beT, @beF, @neT, @neF, @Nos, @Noy, @NaK, @Nbm, @Neg, @Nmm, @false_and, @and_false, @not_false_eq_true, @Nhi, @NfX, @Non, @Nat.mul_one, @Nat.zero_add⟩
theorem Xn : type_of% @Nte ∧ type_of% @Ns6 ∧ type_of% @Ns3 ∧ type_of% @leFn := ⟨@Nte, @Ns6, @Ns3, @leFn⟩
theorem Xl : type_of% @NqF ∧ type_of% @Nqs ∧ type_of% @NkR ∧ type_of% @Z0I_ ∧ type_of% @Nh3 ∧ type_of% @NnG ∧ type_of% @Z0L_ ∧ type_of% @Nb2 ∧ type_of% @Nqb ∧ type_of% @NmR ∧ type_of% @Nqq ∧ type_of% @NqP ∧ type_of% @Nqm ∧ type_of% @Nqr ∧ type_of% @NqE ∧ type_of% @Nqv ∧ type_of% @Nqz ∧ type_of% @NqJ ∧ type_of% @NqQ ∧ type_of% @NqH ∧ type_of% @Nqx ∧ type_of% @Nqn ∧ type_of% @NqN ∧ type_of% @NqL ∧ type_of% @NqA ∧ type_of% @Nqt ∧ type_of% @Nqy ∧ type_of% @NqC ∧ type_of% @Nqw ∧ type_of% @NqM ∧ type_of% @NpT ∧ type_of% @NoQ ∧ type_of% @NqD ∧ type_of% @NqB ∧ type_of% @NoY ∧ type_of% @NpN ∧ type_of% @Nqp ∧ type_of% @NqR ∧ type_of% @List.take_succ_cons.{0} ∧ type_of% @List.take_zero.{0} ∧ type_of% @List.drop_succ_cons.{0} ∧ type_of% @List.drop_zero.{0} ∧ type_of% @List.cons_append.{0} ∧ type_of% @List.nil_append.{0} ∧ type_of% @List.append_nil.{0} ∧ type_of% @List.all_cons.{0} ∧ type_of% @List.all_nil.{0} ∧ type_of% @Bool.and_self ∧ type_of% @Bool.and_true ∧ type_of% @Bool.true_and ∧ type_of% @Nat.zero_add ∧ type_of% @Nat.add_zero ∧ type_of% @Nat.le_refl ∧ type_of% @List.getElem?_cons_zero.{0} ∧ type_of% @List.getElem?_cons_succ.{0} ∧ type_of% @Nat.add_left_cancel_iff ∧ type_of% @Nat.left_eq_add ∧ type_of% @Nat.add_eq_left ∧ type_of% @not_false_eq_true ∧ type_of% @Nql ∧ type_of% @NqS ∧ type_of% @NpF ∧ type_of% @Z1k_ :=
 ⟨@NqF, @Nqs, @NkR, @Z0I_, @Nh3, @NnG, @Z0L_, @Nb2, @Nqb, @NmR, @Nqq, @NqP, @Nqm, @Nqr, @NqE, @Nqv, @Nqz, @NqJ, @NqQ, @NqH, @Nqx, @Nqn, @NqN, @NqL, @NqA, @Nqt, @Nqy, @NqC, @Nqw, @NqM, @NpT, @NoQ, @NqD, @NqB, @NoY, @NpN, @Nqp, @NqR, @List.take_succ_cons.{0}, @List.take_zero.{0}, @List.drop_succ_cons.{0}, @List.drop_zero.{0}, @List.cons_append.{0}, @List.nil_append.{0}, @List.append_nil.{0}, @List.all_cons.{0}, @List.all_nil.{0}, @Bool.and_self, @Bool.and_true, @Bool.true_and, @Nat.zero_add, @Nat.add_zero, @Nat.le_refl, @List.getElem?_cons_zero.{0}, @List.getElem?_cons_succ.{0}, @Nat.add_left_cancel_iff, @Nat.left_eq_add, @Nat.add_eq_left, @not_false_eq_true, @Nql, @NqS, @NpF, @Z1k_⟩
theorem Xf : type_of% @Nsf ∧ type_of% @Nr8 ∧ type_of% @NqF ∧ type_of% @Nqs ∧ type_of% @NkR ∧ type_of% @Z0I_ ∧ type_of% @Nh3 ∧ type_of% @NnG ∧ type_of% @Z0L_ ∧ type_of% @Nb2 ∧ type_of% @Nqb ∧ type_of% @NmR ∧ type_of% @Nqq ∧ type_of% @NqP ∧ type_of% @Nqm ∧ type_of% @Nqr ∧ type_of% @NqE ∧ type_of% @Nqv ∧ type_of% @Nqz ∧ type_of% @NqJ ∧ type_of% @NqQ ∧ type_of% @NqH ∧ type_of% @Nqx ∧ type_of% @Nqn ∧ type_of% @NqN ∧ type_of% @NqL ∧ type_of% @NqA ∧ type_of% @Nqt ∧ type_of% @Nqy ∧ type_of% @NqC ∧ type_of% @Nqw ∧ type_of% @NqM ∧ type_of% @NpT ∧ type_of% @NoQ ∧ type_of% @NqD ∧ type_of% @NqB ∧ type_of% @NoY ∧ type_of% @NpN ∧ type_of% @Nqp ∧ type_of% @NqR ∧ type_of% @List.take_succ_cons.{0} ∧ type_of% @List.take_zero.{0} ∧ type_of% @List.drop_succ_cons.{0} ∧ type_of% @List.drop_zero.{0} ∧ type_of% @List.cons_append.{0} ∧ type_of% @List.nil_append.{0} ∧ type_of% @List.append_nil.{0} ∧ type_of% @List.all_cons.{0} ∧ type_of% @List.all_nil.{0} ∧ type_of% @Bool.and_self ∧ type_of% @Bool.and_true ∧ type_of% @Bool.true_and ∧ type_of% @Nat.zero_add ∧ type_of% @Nat.add_zero ∧ type_of% @Nat.le_refl ∧ type_of% @List.getElem?_cons_zero.{0} ∧ type_of% @List.getElem?_cons_succ.{0} ∧ type_of% @Nat.add_left_cancel_iff ∧ type_of% @Nat.left_eq_add ∧ type_of% @Nat.add_eq_left ∧ type_of% @not_false_eq_true ∧ type_of% @Nql ∧ type_of% @NqS ∧ type_of% @NpF ∧ type_of% @Z1k_ :=
 ⟨@Nsf, @Nr8, @NqF, @Nqs, @NkR, @Z0I_, @Nh3, @NnG, @Z0L_, @Nb2, @Nqb, @NmR, @Nqq, @NqP, @Nqm, @Nqr, @NqE, @Nqv, @Nqz, @NqJ, @NqQ, @NqH, @Nqx, @Nqn, @NqN, @NqL, @NqA, @Nqt, @Nqy, @NqC, @Nqw, @NqM, @NpT, @NoQ, @NqD, @NqB, @NoY, @NpN, @Nqp, @NqR, @List.take_succ_cons.{0}, @List.take_zero.{0}, @List.drop_succ_cons.{0}, @List.drop_zero.{0}, @List.cons_append.{0}, @List.nil_append.{0}, @List.append_nil.{0}, @List.all_cons.{0}, @List.all_nil.{0}, @Bool.and_self, @Bool.and_true, @Bool.true_and, @Nat.zero_add, @Nat.add_zero, @Nat.le_refl, @List.getElem?_cons_zero.{0}, @List.getElem?_cons_succ.{0}, @Nat.add_left_cancel_iff, @Nat.left_eq_add, @Nat.add_eq_left, @not_false_eq_true, @Nql, @NqS, @NpF, @Z1k_⟩
end Go.Pe
