/-
 Numbers in runs over plain data: rules that decide tests and drop wraps by linear arithmetic. No condition; nothing of the program.
-/
import Derived.Test.YtjnofhibldppoaaZPe4
set_option linter.unusedVariables false
set_option linter.unusedSimpArgs false
namespace Go.Pe
open Go
section
variable {a b:Int}
theorem Nh4(n:Nat):Int.ofNat n=(n:Int):=Eq.trans rfl rfl
theorem Nfd(n:Nat):Int.negSucc n=-((n+1:Nat):Int):=Eq.trans rfl rfl
theorem ltT(h:a<b):(a<b)=True:=eq_true h
theorem ltF(h:¬ a<b):(a<b)=False:=eq_false h
theorem leT(h:a≤b):(a≤b)=True:=eq_true h
theorem leF(h:¬ a≤b):(a≤b)=False:=eq_false h
theorem gtT(h:a > b):(a > b)=True:=eq_true h
theorem gtF(h:¬ a > b):(a > b)=False:=eq_false h
theorem geT(h:a≥b):(a≥b)=True:=eq_true h
theorem geF(h:¬ a≥b):(a≥b)=False:=eq_false h
theorem beT(h:a=b):(a==b)=true:=by simp[h]
theorem beF(h:¬ a=b):(a==b)=false:=by simp[h]
theorem neT(h:¬ a=b):(a != b)=true:=by simp[h]
theorem neF(h:a=b):(a != b)=false:=by simp[h]
theorem Nou{a b:Nat}(h:a<b):(a<b)=True:=eq_true h
theorem Nos{a b:Nat}(h:¬ a<b):(a<b)=False:=eq_false h
theorem Noq{a b:Nat}(h:a≤b):(a≤b)=True:=eq_true h
theorem leFn{a b:Nat}(h:¬ a≤b):(a≤b)=False:=eq_false h
theorem Nj5(n m:Nat):(n:Int).tdiv (m:Int)=((n / m:Nat):Int):=Eq.trans rfl rfl
theorem Nj7(n m:Nat):(n:Int).tmod (m:Int)=((n % m:Nat):Int):=Eq.trans rfl rfl
theorem NjV(a b:Nat):(a:Int)+(b:Int)=((a+b:Nat):Int):=Eq.trans rfl rfl
theorem Nev(a b:Nat):((a:Int) - (b:Int)).toNat=a - b:=by omega
theorem Nfw(a b:Nat):((a:Int)+(b:Int)).toNat=a+b:=by omega
theorem Xa:type_of% @Nh4∧type_of% @Nfd∧type_of% @ltT∧type_of% @ltF∧type_of% @leT∧type_of% @leF∧type_of% @gtT∧type_of% @gtF∧type_of% @geT∧type_of% @geF∧type_of% @beT∧type_of% @beF∧type_of% @neT∧type_of% @neF∧type_of% @Nj5∧type_of% @Nj7∧type_of% @NaZ∧type_of% @Nka∧type_of% @Nj9∧type_of% @Nmp∧type_of% @false_and∧type_of% @and_false∧type_of% @not_false_eq_true∧type_of% @Nfw∧type_of% @Nev∧type_of% @NjV∧type_of% @Nat.mul_one∧type_of% @Nat.zero_add :=
 ⟨@Nh4,@Nfd,@ltT,@ltF,@leT,@leF,@gtT,@gtF,@geT,@geF,@beT,@beF,@neT,@neF,@Nj5,@Nj7,@NaZ,@Nka,@Nj9,@Nmp,@false_and,@and_false,@not_false_eq_true,@Nfw,@Nev,@NjV,@Nat.mul_one,@Nat.zero_add⟩
theorem Xn:type_of% @Nou∧type_of% @Nos∧type_of% @Noq∧type_of% @leFn:=⟨@Nou,@Nos,@Noq,@leFn⟩
theorem Xl:type_of% @Nmr∧type_of% @Nms∧type_of% @Nhl∧type_of% @NaJ∧type_of% @NaB∧type_of% @Nmt∧type_of% @Nau∧type_of% @Na0∧type_of% @Nmu∧type_of% @Nmv∧type_of% @Nmw∧type_of% @Nmx∧type_of% @Nmy∧type_of% @Nmz∧type_of% @NmA∧type_of% @NmB∧type_of% @NmC∧type_of% @NmD∧type_of% @NmE∧type_of% @NmF∧type_of% @NmG∧type_of% @NmO∧type_of% @NmP∧type_of% @NmQ∧type_of% @NmR∧type_of% @NmS∧type_of% @NmT∧type_of% @NmU∧type_of% @NmV∧type_of% @NmW∧type_of% @NmX∧type_of% @NmY∧type_of% @NmZ∧type_of% @Nm0∧type_of% @Nm1∧type_of% @Nm2∧type_of% @Nm3∧type_of% @Nm4∧type_of% @List.take_succ_cons.{0}∧type_of% @List.take_zero.{0}∧type_of% @List.drop_succ_cons.{0}∧type_of% @List.drop_zero.{0}∧type_of% @List.cons_append.{0}∧type_of% @List.nil_append.{0}∧type_of% @List.append_nil.{0}∧type_of% @List.all_cons.{0}∧type_of% @List.all_nil.{0}∧type_of% @Bool.and_self∧type_of% @Bool.and_true∧type_of% @Bool.true_and∧type_of% @Nat.zero_add∧type_of% @Nat.add_zero∧type_of% @Nat.le_refl∧type_of% @List.getElem?_cons_zero.{0}∧type_of% @List.getElem?_cons_succ.{0}∧type_of% @Nat.add_left_cancel_iff∧type_of% @Nat.left_eq_add∧type_of% @Nat.add_eq_left∧type_of% @not_false_eq_true∧type_of% @Nm5∧type_of% @Nm6∧type_of% @Nm7∧type_of% @Z1k_ :=
 ⟨@Nmr,@Nms,@Nhl,@NaJ,@NaB,@Nmt,@Nau,@Na0,@Nmu,@Nmv,@Nmw,@Nmx,@Nmy,@Nmz,@NmA,@NmB,@NmC,@NmD,@NmE,@NmF,@NmG,@NmO,@NmP,@NmQ,@NmR,@NmS,@NmT,@NmU,@NmV,@NmW,@NmX,@NmY,@NmZ,@Nm0,@Nm1,@Nm2,@Nm3,@Nm4,@List.take_succ_cons.{0},@List.take_zero.{0},@List.drop_succ_cons.{0},@List.drop_zero.{0},@List.cons_append.{0},@List.nil_append.{0},@List.append_nil.{0},@List.all_cons.{0},@List.all_nil.{0},@Bool.and_self,@Bool.and_true,@Bool.true_and,@Nat.zero_add,@Nat.add_zero,@Nat.le_refl,@List.getElem?_cons_zero.{0},@List.getElem?_cons_succ.{0},@Nat.add_left_cancel_iff,@Nat.left_eq_add,@Nat.add_eq_left,@not_false_eq_true,@Nm5,@Nm6,@Nm7,@Z1k_⟩
end
end Go.Pe
