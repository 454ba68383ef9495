/-
  Numbers in runs over plain data: rules that decide tests and drop wraps by linear arithmetic. No condition; nothing of the program.
-/
import Derived.Test.YtjnofhibldppoaaPe5
set_option linter.unusedVariables false
set_option linter.unusedSimpArgs false
namespace Go.Pe
open Go

theorem ofNat_c (n : Nat) : Int.ofNat n = (n : Int) := Eq.trans rfl rfl
theorem negSucc_c (n : Nat) : Int.negSucc n = -((n + 1 : Nat) : Int) := Eq.trans rfl rfl
theorem ltT {a b : Int} (h : a < b) : (a < b) = True := eq_true h
theorem ltF {a b : Int} (h : ¬ a < b) : (a < b) = False := eq_false h
theorem leT {a b : Int} (h : a ≤ b) : (a ≤ b) = True := eq_true h
theorem leF {a b : Int} (h : ¬ a ≤ b) : (a ≤ b) = False := eq_false h
theorem gtT {a b : Int} (h : a > b) : (a > b) = True := eq_true h
theorem gtF {a b : Int} (h : ¬ a > b) : (a > b) = False := eq_false h
theorem geT {a b : Int} (h : a ≥ b) : (a ≥ b) = True := eq_true h
theorem geF {a b : Int} (h : ¬ a ≥ b) : (a ≥ b) = False := eq_false h
theorem beT {a b : Int} (h : a = b) : (a == b) = true := by simp [h]
theorem beF {a b : Int} (h : ¬ a = b) : (a == b) = false := by simp [h]
theorem neT {a b : Int} (h : ¬ a = b) : (a != b) = true := by simp [h]
theorem neF {a b : Int} (h : a = b) : (a != b) = false := by simp [h]
theorem eqT {a b : Int} (h : a = b) : (a = b) = True := eq_true h
theorem eqF {a b : Int} (h : ¬ a = b) : (a = b) = False := eq_false h
theorem ltTn {a b : Nat} (h : a < b) : (a < b) = True := eq_true h
theorem ltFn {a b : Nat} (h : ¬ a < b) : (a < b) = False := eq_false h
theorem leTn {a b : Nat} (h : a ≤ b) : (a ≤ b) = True := eq_true h
theorem leFn {a b : Nat} (h : ¬ a ≤ b) : (a ≤ b) = False := eq_false h
theorem tdiv_c (n m : Nat) : (n : Int).tdiv (m : Int) = ((n / m : Nat) : Int) := Eq.trans rfl rfl
theorem tmod_c (n m : Nat) : (n : Int).tmod (m : Int) = ((n % m : Nat) : Int) := Eq.trans rfl rfl
theorem natSum (a b : Nat) : (a : Int) + (b : Int) = ((a + b : Nat) : Int) := Eq.trans rfl rfl
theorem toNat_diff (a b : Nat) : ((a : Int) - (b : Int)).toNat = a - b := by omega
theorem toNat_sum (a b : Nat) : ((a : Int) + (b : Int)).toNat = a + b := by omega
theorem Xa : type_of% @ofNat_c ∧ type_of% @negSucc_c ∧ type_of% @ltT ∧ type_of% @ltF ∧ type_of% @leT ∧ type_of% @leF ∧ type_of% @gtT ∧ type_of% @gtF ∧ type_of% @geT ∧ type_of% @geF ∧ type_of% @beT ∧ type_of% @beF ∧ type_of% @neT ∧ type_of% @neF ∧ type_of% @tdiv_c ∧ type_of% @tmod_c ∧ type_of% @wr_i64 ∧ type_of% @wr_u64 ∧ type_of% @wr_u32 ∧ type_of% @wr_u8 ∧ type_of% @false_and ∧ type_of% @and_false ∧ type_of% @not_false_eq_true ∧ type_of% @toNat_sum ∧ type_of% @toNat_diff ∧ type_of% @natSum ∧ type_of% @Nat.mul_one ∧ type_of% @Nat.zero_add :=
  ⟨@ofNat_c, @negSucc_c, @ltT, @ltF, @leT, @leF, @gtT, @gtF, @geT, @geF, @beT, @beF, @neT, @neF, @tdiv_c, @tmod_c, @wr_i64, @wr_u64, @wr_u32, @wr_u8, @false_and, @and_false, @not_false_eq_true, @toNat_sum, @toNat_diff, @natSum, @Nat.mul_one, @Nat.zero_add⟩
theorem Xn : type_of% @ltTn ∧ type_of% @ltFn ∧ type_of% @leTn ∧ type_of% @leFn := ⟨@ltTn, @ltFn, @leTn, @leFn⟩
theorem Xl : type_of% @Z0F_ ∧ type_of% @Z0G_ ∧ type_of% @Z0H_ ∧ type_of% @Z0I_ ∧ type_of% @Z0J_ ∧ type_of% @Z0K_ ∧ type_of% @Z0L_ ∧ type_of% @Z0M_ ∧ type_of% @Z0N_ ∧ type_of% @Z0O_ ∧ type_of% @Z0P_ ∧ type_of% @Z0Q_ ∧ type_of% @Z0R_ ∧ type_of% @Z0S_ ∧ type_of% @Z0T_ ∧ type_of% @Z0U_ ∧ type_of% @Z0V_ ∧ type_of% @Z0W_ ∧ type_of% @Z0X_ ∧ type_of% @Z0Y_ ∧ type_of% @Z0Z_ ∧ type_of% @Z10_ ∧ type_of% @Z11_ ∧ type_of% @Z12_ ∧ type_of% @Z13_ ∧ type_of% @Z14_ ∧ type_of% @Z15_ ∧ type_of% @Z16_ ∧ type_of% @Z17_ ∧ type_of% @Z18_ ∧ type_of% @Z19_ ∧ type_of% @Z1a_ ∧ type_of% @Z1b_ ∧ type_of% @Z1c_ ∧ type_of% @Z1d_ ∧ type_of% @Z1e_ ∧ type_of% @Z1f_ ∧ type_of% @Z1g_ ∧ type_of% @List.take_succ_cons.{0} ∧ type_of% @List.take_zero.{0} ∧ type_of% @List.drop_succ_cons.{0} ∧ type_of% @List.drop_zero.{0} ∧ type_of% @List.cons_append.{0} ∧ type_of% @List.nil_append.{0} ∧ type_of% @List.append_nil.{0} ∧ type_of% @List.all_cons.{0} ∧ type_of% @List.all_nil.{0} ∧ type_of% @Bool.and_self ∧ type_of% @Bool.and_true ∧ type_of% @Bool.true_and ∧ type_of% @Nat.zero_add ∧ type_of% @Nat.add_zero ∧ type_of% @Nat.le_refl ∧ type_of% @List.getElem?_cons_zero.{0} ∧ type_of% @List.getElem?_cons_succ.{0} ∧ type_of% @Nat.add_left_cancel_iff ∧ type_of% @Nat.left_eq_add ∧ type_of% @Nat.add_eq_left ∧ type_of% @not_false_eq_true ∧ type_of% @Z1h_ ∧ type_of% @Z1i_ ∧ type_of% @Z1j_ ∧ type_of% @Z1k_ :=
  ⟨@Z0F_, @Z0G_, @Z0H_, @Z0I_, @Z0J_, @Z0K_, @Z0L_, @Z0M_, @Z0N_, @Z0O_, @Z0P_, @Z0Q_, @Z0R_, @Z0S_, @Z0T_, @Z0U_, @Z0V_, @Z0W_, @Z0X_, @Z0Y_, @Z0Z_, @Z10_, @Z11_, @Z12_, @Z13_, @Z14_, @Z15_, @Z16_, @Z17_, @Z18_, @Z19_, @Z1a_, @Z1b_, @Z1c_, @Z1d_, @Z1e_, @Z1f_, @Z1g_, @List.take_succ_cons.{0}, @List.take_zero.{0}, @List.drop_succ_cons.{0}, @List.drop_zero.{0}, @List.cons_append.{0}, @List.nil_append.{0}, @List.append_nil.{0}, @List.all_cons.{0}, @List.all_nil.{0}, @Bool.and_self, @Bool.and_true, @Bool.true_and, @Nat.zero_add, @Nat.add_zero, @Nat.le_refl, @List.getElem?_cons_zero.{0}, @List.getElem?_cons_succ.{0}, @Nat.add_left_cancel_iff, @Nat.left_eq_add, @Nat.add_eq_left, @not_false_eq_true, @Z1h_, @Z1i_, @Z1j_, @Z1k_⟩
theorem Xf : type_of% @Z0C_ ∧ type_of% @Z0D_ ∧ type_of% @Z0F_ ∧ type_of% @Z0G_ ∧ type_of% @Z0H_ ∧ type_of% @Z0I_ ∧ type_of% @Z0J_ ∧ type_of% @Z0K_ ∧ type_of% @Z0L_ ∧ type_of% @Z0M_ ∧ type_of% @Z0N_ ∧ type_of% @Z0O_ ∧ type_of% @Z0P_ ∧ type_of% @Z0Q_ ∧ type_of% @Z0R_ ∧ type_of% @Z0S_ ∧ type_of% @Z0T_ ∧ type_of% @Z0U_ ∧ type_of% @Z0V_ ∧ type_of% @Z0W_ ∧ type_of% @Z0X_ ∧ type_of% @Z0Y_ ∧ type_of% @Z0Z_ ∧ type_of% @Z10_ ∧ type_of% @Z11_ ∧ type_of% @Z12_ ∧ type_of% @Z13_ ∧ type_of% @Z14_ ∧ type_of% @Z15_ ∧ type_of% @Z16_ ∧ type_of% @Z17_ ∧ type_of% @Z18_ ∧ type_of% @Z19_ ∧ type_of% @Z1a_ ∧ type_of% @Z1b_ ∧ type_of% @Z1c_ ∧ type_of% @Z1d_ ∧ type_of% @Z1e_ ∧ type_of% @Z1f_ ∧ type_of% @Z1g_ ∧ type_of% @List.take_succ_cons.{0} ∧ type_of% @List.take_zero.{0} ∧ type_of% @List.drop_succ_cons.{0} ∧ type_of% @List.drop_zero.{0} ∧ type_of% @List.cons_append.{0} ∧ type_of% @List.nil_append.{0} ∧ type_of% @List.append_nil.{0} ∧ type_of% @List.all_cons.{0} ∧ type_of% @List.all_nil.{0} ∧ type_of% @Bool.and_self ∧ type_of% @Bool.and_true ∧ type_of% @Bool.true_and ∧ type_of% @Nat.zero_add ∧ type_of% @Nat.add_zero ∧ type_of% @Nat.le_refl ∧ type_of% @List.getElem?_cons_zero.{0} ∧ type_of% @List.getElem?_cons_succ.{0} ∧ type_of% @Nat.add_left_cancel_iff ∧ type_of% @Nat.left_eq_add ∧ type_of% @Nat.add_eq_left ∧ type_of% @not_false_eq_true ∧ type_of% @Z1h_ ∧ type_of% @Z1i_ ∧ type_of% @Z1j_ ∧ type_of% @Z1k_ :=
  ⟨@Z0C_, @Z0D_, @Z0F_, @Z0G_, @Z0H_, @Z0I_, @Z0J_, @Z0K_, @Z0L_, @Z0M_, @Z0N_, @Z0O_, @Z0P_, @Z0Q_, @Z0R_, @Z0S_, @Z0T_, @Z0U_, @Z0V_, @Z0W_, @Z0X_, @Z0Y_, @Z0Z_, @Z10_, @Z11_, @Z12_, @Z13_, @Z14_, @Z15_, @Z16_, @Z17_, @Z18_, @Z19_, @Z1a_, @Z1b_, @Z1c_, @Z1d_, @Z1e_, @Z1f_, @Z1g_, @List.take_succ_cons.{0}, @List.take_zero.{0}, @List.drop_succ_cons.{0}, @List.drop_zero.{0}, @List.cons_append.{0}, @List.nil_append.{0}, @List.append_nil.{0}, @List.all_cons.{0}, @List.all_nil.{0}, @Bool.and_self, @Bool.and_true, @Bool.true_and, @Nat.zero_add, @Nat.add_zero, @Nat.le_refl, @List.getElem?_cons_zero.{0}, @List.getElem?_cons_succ.{0}, @Nat.add_left_cancel_iff, @Nat.left_eq_add, @Nat.add_eq_left, @not_false_eq_true, @Z1h_, @Z1i_, @Z1j_, @Z1k_⟩
end Go.Pe
