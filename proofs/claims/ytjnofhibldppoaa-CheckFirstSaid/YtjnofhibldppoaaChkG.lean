/-
 CheckFirst: the law, by the interpreter of plain data. No condition.
-/
import Derived.Test.YtjnofhibldppoaaPrgA
import Derived.Test.YtjnofhibldppoaaView
import Derived.Test.YtjnofhibldppoaaChkD
import Derived.Test.YtjnofhibldppoaaChkE1
import Derived.Test.YtjnofhibldppoaaChkE2
import Derived.Test.YtjnofhibldppoaaChkE3
import Derived.Test.YtjnofhibldppoaaChkE4
import Derived.Test.YtjnofhibldppoaaChkE5
import Derived.Test.YtjnofhibldppoaaChkE6
set_option linter.unusedVariables false
set_option linter.unusedSimpArgs false
namespace Go.Pe
open Go Go.RowKit

mutual
def Ex.wf : Ex → Prop
 | .mk k s n z l => (Lit.int .i64 n).wf = true ∧ s.length ≤ reachBytes ∧ l.length ≤ reachBytes ∧ Exs.wf l
def Exs.wf : List Ex → Prop
 | [] => True
 | e :: r => e.wf ∧ Exs.wf r
end
mutual
def Sm.wf : Sm → Prop
 | .mk k o j i n za a zb b ze e r => (Lit.int .i64 n).wf = true ∧ (Lit.int .i64 r).wf = true ∧ j.length ≤ reachBytes ∧ i.length ≤ reachBytes ∧ a.length ≤ reachBytes ∧ b.length ≤ reachBytes ∧ e.length ≤ reachBytes ∧ Exs.wf a ∧ Sms.wf b ∧ Sms.wf e
def Sms.wf : List Sm → Prop
 | [] => True
 | e :: r => e.wf ∧ Sms.wf r
end
theorem Ni7 {a : PV} {cs : List PV} (h : cs.take 1 = [a]) : cs = a :: cs.drop 1 := by
 have := List.take_append_drop 1 cs
 rw [h] at this
 exact this.symm
section
variable {P : Program}
end
end Go.Pe
set_option maxHeartbeats 4000000
set_option maxRecDepth 100000
namespace Go.Pe
open Go Go.Am Go.RowKit

theorem Naf {one two : Int} {x y : Bool} {a b : Nat} (h : firstL.map (fun p => Naj one two p.1 p.2 a b) = firstL.map fun _ => some (true, .b true)) : Naj one two x y a b = some (true, .b true) := by
 have := List.map_inj_left.1 h (x, y) (by cases x <;> cases y <;> decide)
 exact this
theorem NiQ {one two : Int} {x y : Bool} {a b : Nat} (ha : a < 10) (hb : b < 10) (hab : ¬ a = b) : Naj one two x y a b = some (true, .b true) := by
 have h : a = 0 ∨ a = 1 ∨ a = 2 ∨ a = 3 ∨ a = 4 ∨ a = 5 ∨ a = 6 ∨ a = 7 ∨ a = 8 ∨ a = 9 := by omega
 have k : b = 0 ∨ b = 1 ∨ b = 2 ∨ b = 3 ∨ b = 4 ∨ b = 5 ∨ b = 6 ∨ b = 7 ∨ b = 8 ∨ b = 9 := by omega
 rcases h with rfl | rfl | rfl | rfl | rfl | rfl | rfl | rfl | rfl | rfl
 ·rcases k with rfl | rfl | rfl | rfl | rfl | rfl | rfl | rfl | rfl | rfl
  ·exact absurd rfl hab
  ·exact Naf (Ngf one two)
  ·exact Naf (Nhw one two)
  ·exact Naf (NgG one two)
  ·exact Naf (NgF one two)
  ·exact Naf (Ngh one two)
  ·exact Naf (NfM one two)
  ·exact Naf (NfU one two)
  ·exact Naf (NhX one two)
  ·exact Naf (NfX one two)
 ·rcases k with rfl | rfl | rfl | rfl | rfl | rfl | rfl | rfl | rfl | rfl
  ·exact Naf (NhZ one two)
  ·exact absurd rfl hab
  ·exact Naf (NfY one two)
  ·exact Naf (Ngx one two)
  ·exact Naf (Nga one two)
  ·exact Naf (NfH one two)
  ·exact Naf (Nhs one two)
  ·exact Naf (NhA one two)
  ·exact Naf (NgW one two)
  ·exact Naf (Nhv one two)
 ·rcases k with rfl | rfl | rfl | rfl | rfl | rfl | rfl | rfl | rfl | rfl
  ·exact Naf (NhK one two)
  ·exact Naf (NfI one two)
  ·exact absurd rfl hab
  ·exact Naf (NgZ one two)
  ·exact Naf (NhI one two)
  ·exact Naf (NhD one two)
  ·exact Naf (Nha one two)
  ·exact Naf (NgI one two)
  ·exact Naf (Nhl one two)
  ·exact Naf (Nf7 one two)
 ·rcases k with rfl | rfl | rfl | rfl | rfl | rfl | rfl | rfl | rfl | rfl
  ·exact Naf (Ngm one two)
  ·exact Naf (NhP one two)
  ·exact Naf (NhE one two)
  ·exact absurd rfl hab
  ·exact Naf (Nhk one two)
  ·exact Naf (NgY one two)
  ·exact Naf (Ngt one two)
  ·exact Naf (Nf0 one two)
  ·exact Naf (Ngz one two)
  ·exact Naf (Nhd one two)
 ·rcases k with rfl | rfl | rfl | rfl | rfl | rfl | rfl | rfl | rfl | rfl
  ·exact Naf (NhB one two)
  ·exact Naf (Nh1 one two)
  ·exact Naf (NgR one two)
  ·exact Naf (Nhm one two)
  ·exact absurd rfl hab
  ·exact Naf (Ng5 one two)
  ·exact Naf (NfW one two)
  ·exact Naf (Ngb one two)
  ·exact Naf (NfJ one two)
  ·exact Naf (Nf6 one two)
 ·rcases k with rfl | rfl | rfl | rfl | rfl | rfl | rfl | rfl | rfl | rfl
  ·exact Naf (NhL one two)
  ·exact Naf (NgJ one two)
  ·exact Naf (NgM one two)
  ·exact Naf (Ngu one two)
  ·exact Naf (NgX one two)
  ·exact absurd rfl hab
  ·exact Naf (Nhi one two)
  ·exact Naf (Ngr one two)
  ·exact Naf (Nhf one two)
  ·exact Naf (NhR one two)
 ·rcases k with rfl | rfl | rfl | rfl | rfl | rfl | rfl | rfl | rfl | rfl
  ·exact Naf (Ngy one two)
  ·exact Naf (Nhx one two)
  ·exact Naf (Nf5 one two)
  ·exact Naf (NfR one two)
  ·exact Naf (NgK one two)
  ·exact Naf (Nhn one two)
  ·exact absurd rfl hab
  ·exact Naf (Nhj one two)
  ·exact Naf (Ng1 one two)
  ·exact Naf (Ng8 one two)
 ·rcases k with rfl | rfl | rfl | rfl | rfl | rfl | rfl | rfl | rfl | rfl
  ·exact Naf (Ngq one two)
  ·exact Naf (NfE one two)
  ·exact Naf (NgO one two)
  ·exact Naf (NhM one two)
  ·exact Naf (Ng6 one two)
  ·exact Naf (Nf9 one two)
  ·exact Naf (Ngp one two)
  ·exact absurd rfl hab
  ·exact Naf (Ngs one two)
  ·exact Naf (NfZ one two)
 ·rcases k with rfl | rfl | rfl | rfl | rfl | rfl | rfl | rfl | rfl | rfl
  ·exact Naf (Nf1 one two)
  ·exact Naf (NhQ one two)
  ·exact Naf (Ngn one two)
  ·exact Naf (NhT one two)
  ·exact Naf (Ng9 one two)
  ·exact Naf (NhU one two)
  ·exact Naf (Ngo one two)
  ·exact Naf (Nhu one two)
  ·exact absurd rfl hab
  ·exact Naf (Ngj one two)
 ·rcases k with rfl | rfl | rfl | rfl | rfl | rfl | rfl | rfl | rfl | rfl
  ·exact Naf (NgB one two)
  ·exact Naf (Nhh one two)
  ·exact Naf (NfO one two)
  ·exact Naf (Ngk one two)
  ·exact Naf (NhW one two)
  ·exact Naf (Nhb one two)
  ·exact Naf (NhV one two)
  ·exact Naf (NgS one two)
  ·exact Naf (Ng2 one two)
  ·exact absurd rfl hab
theorem Ni0 {one two : Int} {x y : Bool} (h1 : 0 ≤ one ∧ one < 256) (h2 : 0 ≤ two ∧ two < 256) : ∃ fuel, evP cfgC5 fuel 5 [.i .u8 one, .i .u8 two, .agg [.b x, .b y]] = some (.b true) := by
 refine ⟨300 + 1, NfC rfl rfl (fun _ => rfl) (NaB (by kernel_rfl : cfgC5.fn 5 = some m5) ?_)⟩
 obtain ⟨p, rfl⟩ : ∃ p : Nat, one = p := ⟨one.toNat, by omega⟩
 obtain ⟨q, rfl⟩ : ∃ q : Nat, two = q := ⟨two.toNat, by omega⟩
 have aw : ∀ (st : St) (key : Nat), Naq (Nao cfgC5 (NaI cfgC5 300) 10) false st key [] = some (.b true, st) := fun st key => Nap rfl (by rw [Nbh (by kernel_rfl : cfgC5.ext 10 = some NdI)]; rfl) rfl
 have h10 : (((10 : Nat) : Int) = 0) = False := by simp
 unfold m5
 simp only [Nal]
 by_cases hpq : p % 10 = q % 10
 ·skip
  (try rw [Z0])
  (try simp (maxSteps := 2000000) (disch := first | omega | rfl | assumption) only [↓Xp, ↓Xt, Xq, Xc, Nae, Naa, Nat.reduceAdd, Nat.reduceMul, Nat.reduceLT, Nat.reduceEqDiff, reduceIte, Xa, Xn, unP, Nac, Nab, Nad, Xm, Nat.reduceLeDiff, List.nil_append, List.cons_append, h10, aw, hpq])
  (try rw [Z0])
  (try simp (maxSteps := 2000000) (disch := first | omega | rfl | assumption) only [↓Xp, ↓Xt, Xq, Xc, Nae, Naa, Nat.reduceAdd, Nat.reduceMul, Nat.reduceLT, Nat.reduceEqDiff, reduceIte, Xa, Xn, unP, Nac, Nab, Nad, Xm, Nat.reduceLeDiff, List.nil_append, List.cons_append, h10, aw, hpq])
  (try rw [Z0])
  (try simp (maxSteps := 2000000) (disch := first | omega | rfl | assumption) only [↓Xp, ↓Xt, Xq, Xc, Nae, Naa, Nat.reduceAdd, Nat.reduceMul, Nat.reduceLT, Nat.reduceEqDiff, reduceIte, Xa, Xn, unP, Nac, Nab, Nad, Xm, Nat.reduceLeDiff, List.nil_append, List.cons_append, h10, aw, hpq])
  (try rw [Z0])
  (try simp (maxSteps := 2000000) (disch := first | omega | rfl | assumption) only [↓Xp, ↓Xt, Xq, Xc, Nae, Naa, Nat.reduceAdd, Nat.reduceMul, Nat.reduceLT, Nat.reduceEqDiff, reduceIte, Xa, Xn, unP, Nac, Nab, Nad, Xm, Nat.reduceLeDiff, List.nil_append, List.cons_append, h10, aw, hpq])
  (try rw [Z0])
  (try simp (maxSteps := 2000000) (disch := first | omega | rfl | assumption) only [↓Xp, ↓Xt, Xq, Xc, Nae, Naa, Nat.reduceAdd, Nat.reduceMul, Nat.reduceLT, Nat.reduceEqDiff, reduceIte, Xa, Xn, unP, Nac, Nab, Nad, Xm, Nat.reduceLeDiff, List.nil_append, List.cons_append, h10, aw, hpq])
  (try rw [Z0])
  (try simp (maxSteps := 2000000) (disch := first | omega | rfl | assumption) only [↓Xp, ↓Xt, Xq, Xc, Nae, Naa, Nat.reduceAdd, Nat.reduceMul, Nat.reduceLT, Nat.reduceEqDiff, reduceIte, Xa, Xn, unP, Nac, Nab, Nad, Xm, Nat.reduceLeDiff, List.nil_append, List.cons_append, h10, aw, hpq])
  refine ⟨nofun, _, rfl, ?_⟩
  simp only [NaC, ↓Z0, ↓Xp, ↓Xt, Xq, Xc, Nae, Naa, Nat.reduceAdd, Nat.reduceMul, Nat.reduceLT, Nat.reduceEqDiff, reduceIte]
 ·have hpq2 : (((p % 10 : Nat) : Int) == ((q % 10 : Nat) : Int)) = false := by simp; omega
  (try rw [Z0])
  (try simp (maxSteps := 2000000) (disch := first | omega | rfl | assumption) only [↓Xp, ↓Xt, Xq, Xc, Nae, Naa, Nat.reduceAdd, Nat.reduceMul, Nat.reduceLT, Nat.reduceEqDiff, reduceIte, Xa, Xn, unP, Nac, Nab, Nad, Xm, Nat.reduceLeDiff, List.nil_append, List.cons_append, h10])
  (try rw [Z0])
  (try simp (maxSteps := 2000000) (disch := first | omega | rfl | assumption) only [↓Xp, ↓Xt, Xq, Xc, Nae, Naa, Nat.reduceAdd, Nat.reduceMul, Nat.reduceLT, Nat.reduceEqDiff, reduceIte, Xa, Xn, unP, Nac, Nab, Nad, Xm, Nat.reduceLeDiff, List.nil_append, List.cons_append, h10])
  (try rw [Z0])
  (try simp (maxSteps := 2000000) (disch := first | omega | rfl | assumption) only [↓Xp, ↓Xt, Xq, Xc, Nae, Naa, Nat.reduceAdd, Nat.reduceMul, Nat.reduceLT, Nat.reduceEqDiff, reduceIte, Xa, Xn, unP, Nac, Nab, Nad, Xm, Nat.reduceLeDiff, List.nil_append, List.cons_append, h10])
  (try rw [Z0])
  (try simp (maxSteps := 2000000) (disch := first | omega | rfl | assumption) only [↓Xp, ↓Xt, Xq, Xc, Nae, Naa, Nat.reduceAdd, Nat.reduceMul, Nat.reduceLT, Nat.reduceEqDiff, reduceIte, Xa, Xn, unP, Nac, Nab, Nad, Xm, Nat.reduceLeDiff, List.nil_append, List.cons_append, h10, hpq2])
  refine Nj2 (fun x => x.env.get 6) (.b true) (NiQ (one := (p : Int)) (two := (q : Int)) (x := x) (y := y) (a := p % 10) (b := q % 10) (by omega) (by omega) hpq) ?_
  intro x' hx
  refine ⟨nofun, [.b true], ?_, rfl⟩
  simp only [mapO, Net, hx]
theorem NhN (one : Int) (h1 : (Lit.int .u8 one).wf = true) (two : Int) (h2 : (Lit.int .u8 two).wf = true) (cs : List PV) (h : (Sh.st (.cons .b (.cons .b .nil))).Is cs) : ∃ fuel, evP cfgC5 fuel 5 [.i .u8 one, .i .u8 two, .agg cs] = some (.b true) := by
 obtain ⟨⟨x, e1⟩, ⟨y, e2⟩, e3⟩ := h
 simp only [Sh.width] at e1 e2 e3
 have hc : cs = [.b x, .b y] := (Ni7 e1).trans (by rw [Ni7 e2, e3])
 rw [hc]
 refine Ni0 ?_ ?_
 ·simp [Lit.wf, IntKind.min, IntKind.max, IntKind.signed, IntKind.bits] at h1
  omega
 ·simp [Lit.wf, IntKind.min, IntKind.max, IntKind.signed, IntKind.bits] at h2
  omega
end Go.Pe
