/-
 Code: what an expression tells. No condition.
-/
import Derived.Test.YtnnokaklkegngaaDoorPrgA
import Derived.Test.YtnnokaklkegngaaDoorPeB
import Derived.Test.YtnnokaklkegngaaDoorPeTbl
set_option linter.unusedVariables false
set_option linter.unusedSimpArgs false
set_option maxHeartbeats 8000000
namespace Go.Pe
open Go Go.Am Go.RowKit

theorem Ng7 {cfg : Cfg} {callE : CallE} {n : Nat} {a b : MCode} {x : Now} {Q : MExit → Now → Prop} (R : Now → Prop) (h : ∀ K : Now → Prop, (∀ x', R x' → K x') → WC cfg callE n a x (NeR Q K)) (k : ∀ x', R x' → WC cfg callE n b x' Q) : WC cfg callE n (.seq a b) x Q := by
 rw [Z0]
 exact h _ k
theorem Nd1 {cfg : Cfg} {callE : CallE} {n : Nat} {m : MCode} {x : Now} {Q : MExit → Now → Prop} (R : Now → Prop) (h : R x) (k : ∀ x, R x → WC cfg callE n m x Q) : WC cfg callE n m x Q := k x h
theorem NcO {cfg : Cfg} {f : FuncId} (hx : cfg.ext f = none) {fuel : Nat} {args : List PV} {r : PV} (ho : Naq args = (args, { sto := .leaf, cnt := 1 })) (hc : ∀ st, NaR st r = some r) (h : ∃ r' st', Na5 cfg fuel f args { sto := .leaf, cnt := 1 } = some (r', st') ∧ r' = r) : Nas cfg (Na5 cfg fuel) f args = some r := by
 obtain ⟨r', st', h1, h2⟩ := h
 exact NgB hx ho ⟨r', st', h1, by rw [h2]; exact hc st'⟩
theorem NeG {g : List PV → Option PV} {st : St} {key : Nat} {ps ps' : List PV} {r : PV} (hd : Na8 st ps = some ps') (hg : g ps' = some r) (hc : r.closedB = true) (hr : Nax st key r = some (r, st)) : Nav g false st key ps = some (r, st) := by
 unfold Nav
 simp only [hd, hg, hc, if_true, hr]
def Nhz (s : List UInt8) (a b : Int) : Int := if s = [61, 61] then (if a = b then 1 else 0) else if s = [60] then (if a < b then 1 else 0) else if s = [43] then IntKind.i64.wrap (a + b) else if s = [45] then IntKind.i64.wrap (a - b) else if s = [42] then IntKind.i64.wrap (a * b) else 0
def evI (l : List Int) (k : Nat) (s : List UInt8) (n : Int) (vs : List Int) : Int := if k = 1 then n else if k = 2 then (if n < 0 then 0 else l.getD n.toNat 0) else if k = 3 then
 (match vs with
  | [a] => if s = [45] then IntKind.i64.wrap (0 - a) else 0
  | [a, b] => Nhz s a b
  | _ => 0) else 0
mutual
def Ex.eval (l : List Int) : Ex → Int
 | .mk k s n z L => evI l k.toNat s n (Exs.eval l L)
def Exs.eval (l : List Int) : List Ex → List Int
 | [] => []
 | e :: r => e.eval l :: Exs.eval l r
end
theorem Ex.eval_eq (l : List Int) (e : Ex) : e.eval l = evI l e.K.toNat e.S e.N (Exs.eval l e.L) := by cases e; rw [Ex.eval]; rfl
theorem Exs.eval_map (l : List Int) : ∀ L : List Ex, Exs.eval l L = L.map (Ex.eval l)
 | [] => by rw [Exs.eval]; rfl
 | e :: r => by rw [Exs.eval, Exs.eval_map l r]; rfl
def Nb7 (l : List Int) : List PV := l.map (.i .i64)
theorem NfQ {st : St} {l : List Int} {i : Nat} (h : i < l.length) : NaL st 1 (.fptr ((Nb7 l).drop i)) = some [.i .i64 (l.getD i 0)] := by
 show cut? _ 0 1 = _
 unfold cut? Nb7
 rw [if_pos (by rw [List.length_drop, List.length_map]; omega), List.drop_zero, List.drop_eq_getElem_cons (by rw [List.length_map]; exact h), List.getElem_map]
 simp [List.getD, h]
theorem NjS (k : List UInt8) (v : PV) : Nbd 2 (.s k) v [] = some [(.s k, v)] := rfl
theorem NjY {k j : List UInt8} (h : (k == j) = false) (u v : PV) : Nbd 2 (.s k) v [(.s j, u)] = some [(.s j, u), (.s k, v)] := by simp [Nbd, eq1, h]
theorem Nko {k j i : List UInt8} (h : (k == j) = false) (h2 : (k == i) = false) (u v w : PV) : Nbd 2 (.s k) v [(.s j, u), (.s i, w)] = some [(.s j, u), (.s i, w), (.s k, v)] := by simp [Nbd, eq1, h, h2]
theorem Nku (s k j : List UInt8) (u v : PV) : NaZ 2 (.s s) [(.s k, u), (.s j, v)] = some (if s = k then some u else if s = j then some v else none) := by
 by_cases h1 : s = k
 ·subst h1; simp [NaZ, eq1]
 ·have e1 : (s == k) = false := by simpa using h1
  by_cases h2 : s = j
  ·subst h2; simp [NaZ, eq1, h1, e1]
  ·have e2 : (s == j) = false := by simpa using h2
   simp [NaZ, eq1, h1, h2, e1, e2]
theorem Nkt (s k j i : List UInt8) (u v w : PV) : NaZ 2 (.s s) [(.s k, u), (.s j, v), (.s i, w)] = some (if s = k then some u else if s = j then some v else if s = i then some w else none) := by
 by_cases h1 : s = k
 ·subst h1; simp [NaZ, eq1]
 ·have e1 : (s == k) = false := by simpa using h1
  by_cases h2 : s = j
  ·subst h2; simp [NaZ, eq1, h1, e1]
  ·have e2 : (s == j) = false := by simpa using h2
   by_cases h3 : s = i
   ·subst h3; simp [NaZ, eq1, h1, h2, e1, e2]
   ·have e3 : (s == i) = false := by simpa using h3
    simp [NaZ, eq1, h1, h2, h3, e1, e2, e3]
theorem NhA {cfg : Cfg} (hf : cfg.fn 19 = some m19) {fuel : Nat} {s : List UInt8} {a b : Int} {st : St} :
 ∃ r st', Na5 cfg (fuel + 1) 19 [.s s, .i .i64 a, .i .i64 b] st = some (r, st') ∧ r = .i .i64 (Nhz s a b) := by
 refine Nbq hf ?_
 unfold m19
 obtain ⟨R, hR⟩ : ∃ R, Nhz s a b = R := ⟨_, rfl⟩
 rw [hR]
 unfold Nhz at hR
 have p1 := fun v => NjS [61, 61] v
 have p2 := fun u v => NjY (k := [60]) (j := [61, 61]) (by decide) u v
 have p3 := fun v => NjS [43] v
 have p4 := fun u v => NjY (k := [45]) (j := [43]) (by decide) u v
 have p5 := fun u v w => Nko (k := [42]) (j := [43]) (i := [45]) (by decide) (by decide) u v w
 have q1 := fun u v => Nku s [61, 61] [60] u v
 have q2 := fun u v w => Nkt s [43] [45] [42] u v w
 simp only [Nar]
 obtain ⟨o1, ho1⟩ : ∃ o1, (a == b) = o1 := ⟨_, rfl⟩
 obtain ⟨o2, ho2⟩ : ∃ o2, decide (a < b) = o2 := ⟨_, rfl⟩
 (try rw [Z0])
 (try simp (maxSteps := 2000000) (disch := first | omega | rfl | assumption) only [↓Xp, ↓Xt, Xq, Xc, Nah, Naa, Nat.reduceAdd, Nat.reduceMul, Nat.reduceLT, Nat.reduceEqDiff, reduceIte, Xa, Xn, unP, Naf, Nae, Nad, Xm, Nat.reduceLeDiff, List.nil_append, List.cons_append, p1, p2, ho1, ho2, Option.map_some])
 (try rw [Z0])
 (try simp (maxSteps := 2000000) (disch := first | omega | rfl | assumption) only [↓Xp, ↓Xt, Xq, Xc, Nah, Naa, Nat.reduceAdd, Nat.reduceMul, Nat.reduceLT, Nat.reduceEqDiff, reduceIte, Xa, Xn, unP, Naf, Nae, Nad, Xm, Nat.reduceLeDiff, List.nil_append, List.cons_append, p1, p2, ho1, ho2, Option.map_some])
 refine Nd1 (fun x => ∃ T : Nat, x.env.get 0 = .s s ∧ x.env.get 1 = .i .i64 a ∧ x.env.get 2 = .i .i64 b ∧ x.env.get 7 = .mp T ∧ x.st.get T = some (.map [(.s [61, 61], .agg [.b o1]), (.s [60], .agg [.b o2])])) ?_ ?_
 ·exact ⟨st.cnt + 8, rfl, rfl, rfl, rfl, by rw [St.get_putk]⟩
 rintro ⟨env, ⟨sto, c⟩⟩ ⟨T, g0, g1, g2, g7, kT⟩
 simp only at g0 g1 g2 g7
 replace kT : ∀ n', St.get ⟨sto, n'⟩ T = _ := fun _ => kT
 obtain ⟨o, ho⟩ : ∃ o, (if s = [61, 61] then o1 else if s = [60] then o2 else false) = o := ⟨_, rfl⟩
 have q1' : ((if s = [61, 61] then some (PV.agg [.b o1]) else if s = [60] then some (.agg [.b o2]) else none).getD (.agg [.b false])) = .agg [.b o] := by
  rw [← ho]
  split
  ·rfl
  ·split <;> rfl
 refine Ng7 (fun x => o = false ∧ x.env.get 0 = .s s ∧ x.env.get 1 = .i .i64 a ∧ x.env.get 2 = .i .i64 b) ?_ ?_
 ·intro K hK
  cases o with
  | true =>
    (try rw [Z0])
    (try simp (maxSteps := 2000000) (disch := first | omega | rfl | assumption) only [↓Xp, ↓Xt, Xq, Xc, Nah, Naa, Nat.reduceAdd, Nat.reduceMul, Nat.reduceLT, Nat.reduceEqDiff, reduceIte, Xa, Xn, unP, Naf, Nae, Nad, Xm, Nat.reduceLeDiff, List.nil_append, List.cons_append, g0, g7, kT, q1, Option.map_some, q1'])
    (try rw [Z0])
    (try simp (maxSteps := 2000000) (disch := first | omega | rfl | assumption) only [↓Xp, ↓Xt, Xq, Xc, Nah, Naa, Nat.reduceAdd, Nat.reduceMul, Nat.reduceLT, Nat.reduceEqDiff, reduceIte, Xa, Xn, unP, Naf, Nae, Nad, Xm, Nat.reduceLeDiff, List.nil_append, List.cons_append, g0, g7, kT, q1, Option.map_some, q1'])
    (try rw [Z0])
    (try simp (maxSteps := 2000000) (disch := first | omega | rfl | assumption) only [↓Xp, ↓Xt, Xq, Xc, Nah, Naa, Nat.reduceAdd, Nat.reduceMul, Nat.reduceLT, Nat.reduceEqDiff, reduceIte, Xa, Xn, unP, Naf, Nae, Nad, Xm, Nat.reduceLeDiff, List.nil_append, List.cons_append, g0, g7, kT, q1, Option.map_some, q1'])
    have hR1 : R = 1 := by
     rw [← hR]
     rw [← ho1, ← ho2] at ho
     by_cases h1 : s = [61, 61]
     ·rw [if_pos h1] at ho ⊢; simp at ho; rw [if_pos ho]
     ·rw [if_neg h1] at ho ⊢
      by_cases h2 : s = [60]
      ·rw [if_pos h2] at ho ⊢; simp at ho; rw [if_pos ho]
      ·rw [if_neg h2] at ho; simp at ho
    exact ⟨nofun, _, rfl, by rw [hR1]; simp only [NbO, Env.get_put, if_true]; rfl⟩
  | false =>
    (try rw [Z0])
    (try simp (maxSteps := 2000000) (disch := first | omega | rfl | assumption) only [↓Xp, ↓Xt, Xq, Xc, Nah, Naa, Nat.reduceAdd, Nat.reduceMul, Nat.reduceLT, Nat.reduceEqDiff, reduceIte, Xa, Xn, unP, Naf, Nae, Nad, Xm, Nat.reduceLeDiff, List.nil_append, List.cons_append, g0, g7, kT, q1, Option.map_some, q1'])
    (try rw [Z0])
    (try simp (maxSteps := 2000000) (disch := first | omega | rfl | assumption) only [↓Xp, ↓Xt, Xq, Xc, Nah, Naa, Nat.reduceAdd, Nat.reduceMul, Nat.reduceLT, Nat.reduceEqDiff, reduceIte, Xa, Xn, unP, Naf, Nae, Nad, Xm, Nat.reduceLeDiff, List.nil_append, List.cons_append, g0, g7, kT, q1, Option.map_some, q1'])
    (try rw [Z0])
    (try simp (maxSteps := 2000000) (disch := first | omega | rfl | assumption) only [↓Xp, ↓Xt, Xq, Xc, Nah, Naa, Nat.reduceAdd, Nat.reduceMul, Nat.reduceLT, Nat.reduceEqDiff, reduceIte, Xa, Xn, unP, Naf, Nae, Nad, Xm, Nat.reduceLeDiff, List.nil_append, List.cons_append, g0, g7, kT, q1, Option.map_some, q1'])
    exact hK _ ⟨rfl, by simp [Env.get_put, g0], by simp [Env.get_put, g1], by simp [Env.get_put, g2]⟩
 clear g0 g1 g2 g7 kT
 rintro ⟨env, ⟨sto, c⟩⟩ ⟨ho3, g0, g1, g2⟩
 simp only at g0 g1 g2
 (try rw [Z0])
 (try simp (maxSteps := 2000000) (disch := first | omega | rfl | assumption) only [↓Xp, ↓Xt, Xq, Xc, Nah, Naa, Nat.reduceAdd, Nat.reduceMul, Nat.reduceLT, Nat.reduceEqDiff, reduceIte, Xa, Xn, unP, Naf, Nae, Nad, Xm, Nat.reduceLeDiff, List.nil_append, List.cons_append, g0, g1, g2, p3, p4, p5, q2, Option.map_some])
 (try rw [Z0])
 (try simp (maxSteps := 2000000) (disch := first | omega | rfl | assumption) only [↓Xp, ↓Xt, Xq, Xc, Nah, Naa, Nat.reduceAdd, Nat.reduceMul, Nat.reduceLT, Nat.reduceEqDiff, reduceIte, Xa, Xn, unP, Naf, Nae, Nad, Xm, Nat.reduceLeDiff, List.nil_append, List.cons_append, g0, g1, g2, p3, p4, p5, q2, Option.map_some])
 refine ⟨nofun, _, rfl, ?_⟩
 simp only [NbO, Env.get_put, if_true]
 rw [ho3, ← ho1, ← ho2] at ho
 rw [← hR]
 by_cases h1 : s = [61, 61]
 ·subst h1; simp at ho; simp [ho]
 ·rw [if_neg h1] at ho ⊢
  by_cases h2 : s = [60]
  ·subst h2; simp at ho; simp; omega
  ·rw [if_neg h2]
   by_cases h3 : s = [43]
   ·simp [h3]
   ·by_cases h4 : s = [45]
    ·simp [h4]
    ·by_cases h5 : s = [42]
     ·simp [h5]
     ·simp [h3, h4, h5]
theorem Ndp {st : St} {a b : PV} (h1 : Go.Pe.deep st 12 a = some a) (h2 : Go.Pe.deep st 12 b = some b) : Na8 st [a, b] = some [a, b] := by
 show mapO (Go.Pe.deep st 12) [a, b] = _
 simp only [mapO, h1, h2]
theorem NbW {st : St} {k : IntKind} {a n : Int} {s : List UInt8} {z : Bool} {m : Nat} (cs : List PV) : Go.Pe.deep st 12 (.agg [.i k a, .s s, .i .i64 n, slV z m cs]) = some (.agg [.i k a, .s s, .i .i64 n, slV z m cs]) := by
 unfold slV
 split <;> rfl
theorem NcZ {k : IntKind} {a n : Int} {s : List UInt8} {z : Bool} {m p : Nat} (cs ds : List PV) : Naq [.agg [.i k a, .s s, .i .i64 n, slV z m cs], .fsl p ds] = ([.agg [.i k a, .s s, .i .i64 n, slV z m cs], .fsl p ds], { sto := .leaf, cnt := 1 }) := by
 unfold slV
 split <;> rfl
theorem Ngr {st : St} {s : List UInt8} {a b : Int} : Na8 st [.s s, .i .i64 a, .i .i64 b] = some [.s s, .i .i64 a, .i .i64 b] := rfl
theorem Nhm {α : Type} : ∀ {l : List α}, l.length = 2 → ∃ a b, l = [a, b]
 | [a, b], _ => ⟨a, b, rfl⟩
 | [], h => by simp at h
 | [_], h => by simp at h
 | _ :: _ :: _ :: _, h => by simp at h
structure CfgE (cfg : Cfg) : Prop where
 fn : ∀ f m, Nb8 f tblL = some m → cfg.fn f = some m
 e1 : cfg.ext 9 = none
 e2 : cfg.ext 19 = none
theorem NgQ {cfg : Cfg} (hc : CfgE cfg) (l : List Int) : ∀ (fuel : Nat) (e : Ex) (st : St), e.size + 1 ≤ fuel →
 ∃ r st', Na5 cfg (fuel + 1) 9 [.agg e.cs, .fsl l.length (Nb7 l)] st = some (r, st') ∧ r = .i .i64 (e.eval l) := by
 intro fuel
 induction fuel with
 | zero => intro e st h; omega
 | succ q ih =>
   intro e st hfu
   refine Nbq (hc.fn _ _ (by kernel_rfl) : cfg.fn 9 = some m9) ?_
   unfold m9
   have hes := Ex.size_eq e
   rw [Ex.cs_eq, Ex.eval_eq]
   obtain ⟨k, hkk⟩ : ∃ k, e.K.toNat = k := ⟨_, rfl⟩
   rw [hkk]
   have hlv := Nhb e.z e.L.length (Exs.cs e.L)
   have hsz := Exs.len e.L
   obtain ⟨R, hR⟩ : ∃ R, evI l k e.S e.N (Exs.eval l e.L) = R := ⟨_, rfl⟩
   rw [hR]
   unfold evI at hR
   simp only [Nar]
   (try rw [Z0])
   (try simp (maxSteps := 2000000) (disch := first | omega | rfl | assumption) only [↓Xp, ↓Xt, Xq, Xc, Nah, Naa, Nat.reduceAdd, Nat.reduceMul, Nat.reduceLT, Nat.reduceEqDiff, reduceIte, Xa, Xn, unP, Naf, Nae, Nad, Xm, Nat.reduceLeDiff, List.nil_append, List.cons_append, NaA, Nal])
   refine Nd1 (fun x => ∃ B : Nat, x.env.get 1 = .fsl l.length (Nb7 l) ∧ x.env.get 2 = .ptr B 0 ∧ x.st.get B = some (.cells [.i .u8 (k : Int), .s e.S, .i .i64 e.N, slV e.z e.L.length (Exs.cs e.L)] false)) ?_ ?_
   ·exact ⟨st.cnt, rfl, rfl, by rw [St.get_putk]⟩
   rintro ⟨env, ⟨sto, c⟩⟩ ⟨B, g1, g2, kB⟩
   simp only at g1 g2
   replace kB : ∀ n', St.get ⟨sto, n'⟩ B = _ := fun _ => kB
   by_cases h1 : k = 1
   ·have b1 : ((k : Int) == Int.ofNat 1) = true := by subst h1; rfl
    rw [if_pos h1] at hR
    (try rw [Z0])
    (try simp (maxSteps := 2000000) (disch := first | omega | rfl | assumption) only [↓Xp, ↓Xt, Xq, Xc, Nah, Naa, Nat.reduceAdd, Nat.reduceMul, Nat.reduceLT, Nat.reduceEqDiff, reduceIte, Xa, Xn, unP, Naf, Nae, Nad, Xm, Nat.reduceLeDiff, List.nil_append, List.cons_append, g1, g2, kB, b1])
    (try rw [Z0])
    (try simp (maxSteps := 2000000) (disch := first | omega | rfl | assumption) only [↓Xp, ↓Xt, Xq, Xc, Nah, Naa, Nat.reduceAdd, Nat.reduceMul, Nat.reduceLT, Nat.reduceEqDiff, reduceIte, Xa, Xn, unP, Naf, Nae, Nad, Xm, Nat.reduceLeDiff, List.nil_append, List.cons_append, g1, g2, kB, b1])
    (try rw [Z0])
    (try simp (maxSteps := 2000000) (disch := first | omega | rfl | assumption) only [↓Xp, ↓Xt, Xq, Xc, Nah, Naa, Nat.reduceAdd, Nat.reduceMul, Nat.reduceLT, Nat.reduceEqDiff, reduceIte, Xa, Xn, unP, Naf, Nae, Nad, Xm, Nat.reduceLeDiff, List.nil_append, List.cons_append, g1, g2, kB, b1])
    (try rw [Z0])
    (try simp (maxSteps := 2000000) (disch := first | omega | rfl | assumption) only [↓Xp, ↓Xt, Xq, Xc, Nah, Naa, Nat.reduceAdd, Nat.reduceMul, Nat.reduceLT, Nat.reduceEqDiff, reduceIte, Xa, Xn, unP, Naf, Nae, Nad, Xm, Nat.reduceLeDiff, List.nil_append, List.cons_append, g1, g2, kB, b1])
    exact ⟨nofun, _, rfl, by simp only [NbO, Env.get_put, if_true]; rw [hR]⟩
   have b1 : ((k : Int) == Int.ofNat 1) = false := by simp; omega
   rw [if_neg h1] at hR
   by_cases h2 : k = 2
   ·have b2 : ((k : Int) == Int.ofNat 2) = true := by subst h2; rfl
    rw [if_pos h2] at hR
    by_cases hneg : e.N < 0
    ·rw [if_pos hneg] at hR
     (try rw [Z0])
     (try simp (maxSteps := 2000000) (disch := first | omega | rfl | assumption) only [↓Xp, ↓Xt, Xq, Xc, Nah, Naa, Nat.reduceAdd, Nat.reduceMul, Nat.reduceLT, Nat.reduceEqDiff, reduceIte, Xa, Xn, unP, Naf, Nae, Nad, Xm, Nat.reduceLeDiff, List.nil_append, List.cons_append, g1, g2, kB, b1, b2])
     (try rw [Z0])
     (try simp (maxSteps := 2000000) (disch := first | omega | rfl | assumption) only [↓Xp, ↓Xt, Xq, Xc, Nah, Naa, Nat.reduceAdd, Nat.reduceMul, Nat.reduceLT, Nat.reduceEqDiff, reduceIte, Xa, Xn, unP, Naf, Nae, Nad, Xm, Nat.reduceLeDiff, List.nil_append, List.cons_append, g1, g2, kB, b1, b2])
     (try rw [Z0])
     (try simp (maxSteps := 2000000) (disch := first | omega | rfl | assumption) only [↓Xp, ↓Xt, Xq, Xc, Nah, Naa, Nat.reduceAdd, Nat.reduceMul, Nat.reduceLT, Nat.reduceEqDiff, reduceIte, Xa, Xn, unP, Naf, Nae, Nad, Xm, Nat.reduceLeDiff, List.nil_append, List.cons_append, g1, g2, kB, b1, b2])
     (try rw [Z0])
     (try simp (maxSteps := 2000000) (disch := first | omega | rfl | assumption) only [↓Xp, ↓Xt, Xq, Xc, Nah, Naa, Nat.reduceAdd, Nat.reduceMul, Nat.reduceLT, Nat.reduceEqDiff, reduceIte, Xa, Xn, unP, Naf, Nae, Nad, Xm, Nat.reduceLeDiff, List.nil_append, List.cons_append, g1, g2, kB, b1, b2])
     (try rw [Z0])
     (try simp (maxSteps := 2000000) (disch := first | omega | rfl | assumption) only [↓Xp, ↓Xt, Xq, Xc, Nah, Naa, Nat.reduceAdd, Nat.reduceMul, Nat.reduceLT, Nat.reduceEqDiff, reduceIte, Xa, Xn, unP, Naf, Nae, Nad, Xm, Nat.reduceLeDiff, List.nil_append, List.cons_append, g1, g2, kB, b1, b2])
     (try rw [Z0])
     (try simp (maxSteps := 2000000) (disch := first | omega | rfl | assumption) only [↓Xp, ↓Xt, Xq, Xc, Nah, Naa, Nat.reduceAdd, Nat.reduceMul, Nat.reduceLT, Nat.reduceEqDiff, reduceIte, Xa, Xn, unP, Naf, Nae, Nad, Xm, Nat.reduceLeDiff, List.nil_append, List.cons_append, g1, g2, kB, b1, b2])
     (try rw [Z0])
     (try simp (maxSteps := 2000000) (disch := first | omega | rfl | assumption) only [↓Xp, ↓Xt, Xq, Xc, Nah, Naa, Nat.reduceAdd, Nat.reduceMul, Nat.reduceLT, Nat.reduceEqDiff, reduceIte, Xa, Xn, unP, Naf, Nae, Nad, Xm, Nat.reduceLeDiff, List.nil_append, List.cons_append, g1, g2, kB, b1, b2])
     exact ⟨nofun, _, rfl, by simp only [NbO, Env.get_put, if_true]; rw [← hR]; rfl⟩
    ·rw [if_neg hneg] at hR
     obtain ⟨i, hi⟩ : ∃ i : Nat, e.N = (i : Int) := ⟨e.N.toNat, by omega⟩
     rw [hi] at hR kB hneg
     by_cases hil : i < l.length
     ·have hld := fun st => NfQ (st := st) hil
      (try rw [Z0])
      (try simp (maxSteps := 2000000) (disch := first | omega | rfl | assumption) only [↓Xp, ↓Xt, Xq, Xc, Nah, Naa, Nat.reduceAdd, Nat.reduceMul, Nat.reduceLT, Nat.reduceEqDiff, reduceIte, Xa, Xn, unP, Naf, Nae, Nad, Xm, Nat.reduceLeDiff, List.nil_append, List.cons_append, g1, g2, kB, b1, b2, hld])
      (try rw [Z0])
      (try simp (maxSteps := 2000000) (disch := first | omega | rfl | assumption) only [↓Xp, ↓Xt, Xq, Xc, Nah, Naa, Nat.reduceAdd, Nat.reduceMul, Nat.reduceLT, Nat.reduceEqDiff, reduceIte, Xa, Xn, unP, Naf, Nae, Nad, Xm, Nat.reduceLeDiff, List.nil_append, List.cons_append, g1, g2, kB, b1, b2, hld])
      (try rw [Z0])
      (try simp (maxSteps := 2000000) (disch := first | omega | rfl | assumption) only [↓Xp, ↓Xt, Xq, Xc, Nah, Naa, Nat.reduceAdd, Nat.reduceMul, Nat.reduceLT, Nat.reduceEqDiff, reduceIte, Xa, Xn, unP, Naf, Nae, Nad, Xm, Nat.reduceLeDiff, List.nil_append, List.cons_append, g1, g2, kB, b1, b2, hld])
      (try rw [Z0])
      (try simp (maxSteps := 2000000) (disch := first | omega | rfl | assumption) only [↓Xp, ↓Xt, Xq, Xc, Nah, Naa, Nat.reduceAdd, Nat.reduceMul, Nat.reduceLT, Nat.reduceEqDiff, reduceIte, Xa, Xn, unP, Naf, Nae, Nad, Xm, Nat.reduceLeDiff, List.nil_append, List.cons_append, g1, g2, kB, b1, b2, hld])
      (try rw [Z0])
      (try simp (maxSteps := 2000000) (disch := first | omega | rfl | assumption) only [↓Xp, ↓Xt, Xq, Xc, Nah, Naa, Nat.reduceAdd, Nat.reduceMul, Nat.reduceLT, Nat.reduceEqDiff, reduceIte, Xa, Xn, unP, Naf, Nae, Nad, Xm, Nat.reduceLeDiff, List.nil_append, List.cons_append, g1, g2, kB, b1, b2, hld])
      (try rw [Z0])
      (try simp (maxSteps := 2000000) (disch := first | omega | rfl | assumption) only [↓Xp, ↓Xt, Xq, Xc, Nah, Naa, Nat.reduceAdd, Nat.reduceMul, Nat.reduceLT, Nat.reduceEqDiff, reduceIte, Xa, Xn, unP, Naf, Nae, Nad, Xm, Nat.reduceLeDiff, List.nil_append, List.cons_append, g1, g2, kB, b1, b2, hld])
      (try rw [Z0])
      (try simp (maxSteps := 2000000) (disch := first | omega | rfl | assumption) only [↓Xp, ↓Xt, Xq, Xc, Nah, Naa, Nat.reduceAdd, Nat.reduceMul, Nat.reduceLT, Nat.reduceEqDiff, reduceIte, Xa, Xn, unP, Naf, Nae, Nad, Xm, Nat.reduceLeDiff, List.nil_append, List.cons_append, g1, g2, kB, b1, b2, hld])
      refine ⟨List.length_map _, nofun, _, rfl, ?_⟩
      simp only [NbO, Env.get_put, if_true]
      rw [← hR]; rfl
     ·skip
      (try rw [Z0])
      (try simp (maxSteps := 2000000) (disch := first | omega | rfl | assumption) only [↓Xp, ↓Xt, Xq, Xc, Nah, Naa, Nat.reduceAdd, Nat.reduceMul, Nat.reduceLT, Nat.reduceEqDiff, reduceIte, Xa, Xn, unP, Naf, Nae, Nad, Xm, Nat.reduceLeDiff, List.nil_append, List.cons_append, g1, g2, kB, b1, b2])
      (try rw [Z0])
      (try simp (maxSteps := 2000000) (disch := first | omega | rfl | assumption) only [↓Xp, ↓Xt, Xq, Xc, Nah, Naa, Nat.reduceAdd, Nat.reduceMul, Nat.reduceLT, Nat.reduceEqDiff, reduceIte, Xa, Xn, unP, Naf, Nae, Nad, Xm, Nat.reduceLeDiff, List.nil_append, List.cons_append, g1, g2, kB, b1, b2])
      (try rw [Z0])
      (try simp (maxSteps := 2000000) (disch := first | omega | rfl | assumption) only [↓Xp, ↓Xt, Xq, Xc, Nah, Naa, Nat.reduceAdd, Nat.reduceMul, Nat.reduceLT, Nat.reduceEqDiff, reduceIte, Xa, Xn, unP, Naf, Nae, Nad, Xm, Nat.reduceLeDiff, List.nil_append, List.cons_append, g1, g2, kB, b1, b2])
      (try rw [Z0])
      (try simp (maxSteps := 2000000) (disch := first | omega | rfl | assumption) only [↓Xp, ↓Xt, Xq, Xc, Nah, Naa, Nat.reduceAdd, Nat.reduceMul, Nat.reduceLT, Nat.reduceEqDiff, reduceIte, Xa, Xn, unP, Naf, Nae, Nad, Xm, Nat.reduceLeDiff, List.nil_append, List.cons_append, g1, g2, kB, b1, b2])
      (try rw [Z0])
      (try simp (maxSteps := 2000000) (disch := first | omega | rfl | assumption) only [↓Xp, ↓Xt, Xq, Xc, Nah, Naa, Nat.reduceAdd, Nat.reduceMul, Nat.reduceLT, Nat.reduceEqDiff, reduceIte, Xa, Xn, unP, Naf, Nae, Nad, Xm, Nat.reduceLeDiff, List.nil_append, List.cons_append, g1, g2, kB, b1, b2])
      (try rw [Z0])
      (try simp (maxSteps := 2000000) (disch := first | omega | rfl | assumption) only [↓Xp, ↓Xt, Xq, Xc, Nah, Naa, Nat.reduceAdd, Nat.reduceMul, Nat.reduceLT, Nat.reduceEqDiff, reduceIte, Xa, Xn, unP, Naf, Nae, Nad, Xm, Nat.reduceLeDiff, List.nil_append, List.cons_append, g1, g2, kB, b1, b2])
      (try rw [Z0])
      (try simp (maxSteps := 2000000) (disch := first | omega | rfl | assumption) only [↓Xp, ↓Xt, Xq, Xc, Nah, Naa, Nat.reduceAdd, Nat.reduceMul, Nat.reduceLT, Nat.reduceEqDiff, reduceIte, Xa, Xn, unP, Naf, Nae, Nad, Xm, Nat.reduceLeDiff, List.nil_append, List.cons_append, g1, g2, kB, b1, b2])
      exact ⟨nofun, _, rfl, by simp only [NbO, Env.get_put, if_true]; rw [← hR, Int.toNat_natCast, List.getD, List.getElem?_eq_none (by omega)]; rfl⟩
   have b2 : ((k : Int) == Int.ofNat 2) = false := by simp; omega
   rw [if_neg h2] at hR
   by_cases h3 : k = 3
   ·have b3 : ((k : Int) == Int.ofNat 3) = true := by subst h3; rfl
    rw [if_pos h3] at hR
    have gQ : ∀ (x : Ex), x ∈ e.L → Nas cfg (Na5 cfg (q + 1)) 9 [.agg [.i .u8 (x.K.toNat : Int), .s x.S, .i .i64 x.N, slV x.z x.L.length (Exs.cs x.L)], .fsl l.length (Nb7 l)] = some (.i .i64 (x.eval l)) := fun x hx => by
     have hm := Exs.size_mem hx
     refine NcO hc.e1 (NcZ _ _) (fun _ => rfl) ?_
     have := ih x { sto := .leaf, cnt := 1 } (by omega)
     rw [Ex.cs_eq] at this
     exact this
    have gE : ∀ (x : Ex), x ∈ e.L → ∀ (st : St) (key : Nat), Nav (Nas cfg (Na5 cfg (q + 1)) 9) false st key [.agg [.i .u8 (x.K.toNat : Int), .s x.S, .i .i64 x.N, slV x.z x.L.length (Exs.cs x.L)], .fsl l.length (Nb7 l)] = some (.i .i64 (x.eval l), st) := fun x hx st key => by
     exact NeG (Ndp (NbW _) rfl) (gQ x hx) rfl rfl
    have gT : ∀ (s : List UInt8) (a b : Int), Nas cfg (Na5 cfg (q + 1)) 19 [.s s, .i .i64 a, .i .i64 b] = some (.i .i64 (Nhz s a b)) := fun s a b => NcO hc.e2 rfl (fun _ => rfl) (NhA (hc.fn _ _ (by kernel_rfl)))
    by_cases l1 : e.L.length = 1
    ·have c1 : ((e.L.length : Int) == Int.ofNat 1) = true := by rw [l1]; rfl
     have hE : Exs.eval l e.L = [(e.L[0]'(by omega)).eval l] := by
      obtain ⟨a, ha⟩ := List.length_eq_one_iff.1 l1
      simp [Exs.eval_map, ha]
     rw [hE] at hR
     simp only at hR
     have hp : slV e.z e.L.length (Exs.cs e.L) = .fsl e.L.length (Exs.cs e.L) := Ne9 (i := 0) (by omega)
     rw [hp] at kB hlv
     have hld : ∀ st, NaL st 4 (.fptr (Exs.cs e.L)) = _ := fun st => Nec (st := st) (l := e.L) (i := 0) (by omega)
     have gA := gE (e.L[0]'(by omega)) (List.getElem_mem _)
     by_cases hs : e.S = [45]
     ·have bs : (e.S == [45]) = true := by simpa using hs
      rw [if_pos hs] at hR
      (try rw [Z0])
      (try simp (maxSteps := 2000000) (disch := first | omega | rfl | assumption) only [↓Xp, ↓Xt, Xq, Xc, Nah, Naa, Nat.reduceAdd, Nat.reduceMul, Nat.reduceLT, Nat.reduceEqDiff, reduceIte, Xa, Xn, unP, Naf, Nae, Nad, Xm, Nat.reduceLeDiff, List.nil_append, List.cons_append, g1, g2, kB, b1, b2, b3, c1, hlv, bs, hld, gA, hsz, NaA, Nal])
      (try rw [Z0])
      (try simp (maxSteps := 2000000) (disch := first | omega | rfl | assumption) only [↓Xp, ↓Xt, Xq, Xc, Nah, Naa, Nat.reduceAdd, Nat.reduceMul, Nat.reduceLT, Nat.reduceEqDiff, reduceIte, Xa, Xn, unP, Naf, Nae, Nad, Xm, Nat.reduceLeDiff, List.nil_append, List.cons_append, g1, g2, kB, b1, b2, b3, c1, hlv, bs, hld, gA, hsz, NaA, Nal])
      (try rw [Z0])
      (try simp (maxSteps := 2000000) (disch := first | omega | rfl | assumption) only [↓Xp, ↓Xt, Xq, Xc, Nah, Naa, Nat.reduceAdd, Nat.reduceMul, Nat.reduceLT, Nat.reduceEqDiff, reduceIte, Xa, Xn, unP, Naf, Nae, Nad, Xm, Nat.reduceLeDiff, List.nil_append, List.cons_append, g1, g2, kB, b1, b2, b3, c1, hlv, bs, hld, gA, hsz, NaA, Nal])
      (try rw [Z0])
      (try simp (maxSteps := 2000000) (disch := first | omega | rfl | assumption) only [↓Xp, ↓Xt, Xq, Xc, Nah, Naa, Nat.reduceAdd, Nat.reduceMul, Nat.reduceLT, Nat.reduceEqDiff, reduceIte, Xa, Xn, unP, Naf, Nae, Nad, Xm, Nat.reduceLeDiff, List.nil_append, List.cons_append, g1, g2, kB, b1, b2, b3, c1, hlv, bs, hld, gA, hsz, NaA, Nal])
      (try rw [Z0])
      (try simp (maxSteps := 2000000) (disch := first | omega | rfl | assumption) only [↓Xp, ↓Xt, Xq, Xc, Nah, Naa, Nat.reduceAdd, Nat.reduceMul, Nat.reduceLT, Nat.reduceEqDiff, reduceIte, Xa, Xn, unP, Naf, Nae, Nad, Xm, Nat.reduceLeDiff, List.nil_append, List.cons_append, g1, g2, kB, b1, b2, b3, c1, hlv, bs, hld, gA, hsz, NaA, Nal])
      (try rw [Z0])
      (try simp (maxSteps := 2000000) (disch := first | omega | rfl | assumption) only [↓Xp, ↓Xt, Xq, Xc, Nah, Naa, Nat.reduceAdd, Nat.reduceMul, Nat.reduceLT, Nat.reduceEqDiff, reduceIte, Xa, Xn, unP, Naf, Nae, Nad, Xm, Nat.reduceLeDiff, List.nil_append, List.cons_append, g1, g2, kB, b1, b2, b3, c1, hlv, bs, hld, gA, hsz, NaA, Nal])
      (try rw [Z0])
      (try simp (maxSteps := 2000000) (disch := first | omega | rfl | assumption) only [↓Xp, ↓Xt, Xq, Xc, Nah, Naa, Nat.reduceAdd, Nat.reduceMul, Nat.reduceLT, Nat.reduceEqDiff, reduceIte, Xa, Xn, unP, Naf, Nae, Nad, Xm, Nat.reduceLeDiff, List.nil_append, List.cons_append, g1, g2, kB, b1, b2, b3, c1, hlv, bs, hld, gA, hsz, NaA, Nal])
      (try rw [Z0])
      (try simp (maxSteps := 2000000) (disch := first | omega | rfl | assumption) only [↓Xp, ↓Xt, Xq, Xc, Nah, Naa, Nat.reduceAdd, Nat.reduceMul, Nat.reduceLT, Nat.reduceEqDiff, reduceIte, Xa, Xn, unP, Naf, Nae, Nad, Xm, Nat.reduceLeDiff, List.nil_append, List.cons_append, g1, g2, kB, b1, b2, b3, c1, hlv, bs, hld, gA, hsz, NaA, Nal])
      (try rw [Z0])
      (try simp (maxSteps := 2000000) (disch := first | omega | rfl | assumption) only [↓Xp, ↓Xt, Xq, Xc, Nah, Naa, Nat.reduceAdd, Nat.reduceMul, Nat.reduceLT, Nat.reduceEqDiff, reduceIte, Xa, Xn, unP, Naf, Nae, Nad, Xm, Nat.reduceLeDiff, List.nil_append, List.cons_append, g1, g2, kB, b1, b2, b3, c1, hlv, bs, hld, gA, hsz, NaA, Nal])
      exact ⟨nofun, _, rfl, by simp only [NbO, Env.get_put, if_true]; rw [hR]⟩
     ·have bs : (e.S == [45]) = false := by simpa using hs
      rw [if_neg hs] at hR
      (try rw [Z0])
      (try simp (maxSteps := 2000000) (disch := first | omega | rfl | assumption) only [↓Xp, ↓Xt, Xq, Xc, Nah, Naa, Nat.reduceAdd, Nat.reduceMul, Nat.reduceLT, Nat.reduceEqDiff, reduceIte, Xa, Xn, unP, Naf, Nae, Nad, Xm, Nat.reduceLeDiff, List.nil_append, List.cons_append, g1, g2, kB, b1, b2, b3, c1, hlv, bs])
      (try rw [Z0])
      (try simp (maxSteps := 2000000) (disch := first | omega | rfl | assumption) only [↓Xp, ↓Xt, Xq, Xc, Nah, Naa, Nat.reduceAdd, Nat.reduceMul, Nat.reduceLT, Nat.reduceEqDiff, reduceIte, Xa, Xn, unP, Naf, Nae, Nad, Xm, Nat.reduceLeDiff, List.nil_append, List.cons_append, g1, g2, kB, b1, b2, b3, c1, hlv, bs])
      (try rw [Z0])
      (try simp (maxSteps := 2000000) (disch := first | omega | rfl | assumption) only [↓Xp, ↓Xt, Xq, Xc, Nah, Naa, Nat.reduceAdd, Nat.reduceMul, Nat.reduceLT, Nat.reduceEqDiff, reduceIte, Xa, Xn, unP, Naf, Nae, Nad, Xm, Nat.reduceLeDiff, List.nil_append, List.cons_append, g1, g2, kB, b1, b2, b3, c1, hlv, bs])
      (try rw [Z0])
      (try simp (maxSteps := 2000000) (disch := first | omega | rfl | assumption) only [↓Xp, ↓Xt, Xq, Xc, Nah, Naa, Nat.reduceAdd, Nat.reduceMul, Nat.reduceLT, Nat.reduceEqDiff, reduceIte, Xa, Xn, unP, Naf, Nae, Nad, Xm, Nat.reduceLeDiff, List.nil_append, List.cons_append, g1, g2, kB, b1, b2, b3, c1, hlv, bs])
      (try rw [Z0])
      (try simp (maxSteps := 2000000) (disch := first | omega | rfl | assumption) only [↓Xp, ↓Xt, Xq, Xc, Nah, Naa, Nat.reduceAdd, Nat.reduceMul, Nat.reduceLT, Nat.reduceEqDiff, reduceIte, Xa, Xn, unP, Naf, Nae, Nad, Xm, Nat.reduceLeDiff, List.nil_append, List.cons_append, g1, g2, kB, b1, b2, b3, c1, hlv, bs])
      (try rw [Z0])
      (try simp (maxSteps := 2000000) (disch := first | omega | rfl | assumption) only [↓Xp, ↓Xt, Xq, Xc, Nah, Naa, Nat.reduceAdd, Nat.reduceMul, Nat.reduceLT, Nat.reduceEqDiff, reduceIte, Xa, Xn, unP, Naf, Nae, Nad, Xm, Nat.reduceLeDiff, List.nil_append, List.cons_append, g1, g2, kB, b1, b2, b3, c1, hlv, bs])
      (try rw [Z0])
      (try simp (maxSteps := 2000000) (disch := first | omega | rfl | assumption) only [↓Xp, ↓Xt, Xq, Xc, Nah, Naa, Nat.reduceAdd, Nat.reduceMul, Nat.reduceLT, Nat.reduceEqDiff, reduceIte, Xa, Xn, unP, Naf, Nae, Nad, Xm, Nat.reduceLeDiff, List.nil_append, List.cons_append, g1, g2, kB, b1, b2, b3, c1, hlv, bs])
      (try rw [Z0])
      (try simp (maxSteps := 2000000) (disch := first | omega | rfl | assumption) only [↓Xp, ↓Xt, Xq, Xc, Nah, Naa, Nat.reduceAdd, Nat.reduceMul, Nat.reduceLT, Nat.reduceEqDiff, reduceIte, Xa, Xn, unP, Naf, Nae, Nad, Xm, Nat.reduceLeDiff, List.nil_append, List.cons_append, g1, g2, kB, b1, b2, b3, c1, hlv, bs])
      (try rw [Z0])
      (try simp (maxSteps := 2000000) (disch := first | omega | rfl | assumption) only [↓Xp, ↓Xt, Xq, Xc, Nah, Naa, Nat.reduceAdd, Nat.reduceMul, Nat.reduceLT, Nat.reduceEqDiff, reduceIte, Xa, Xn, unP, Naf, Nae, Nad, Xm, Nat.reduceLeDiff, List.nil_append, List.cons_append, g1, g2, kB, b1, b2, b3, c1, hlv, bs])
      exact ⟨nofun, _, rfl, by simp only [NbO, Env.get_put, if_true]; rw [← hR]; rfl⟩
    have c1 : ((e.L.length : Int) == Int.ofNat 1) = false := by simp; omega
    by_cases l2 : e.L.length = 2
    ·have c2 : ((e.L.length : Int) == Int.ofNat 2) = true := by rw [l2]; rfl
     have hE : Exs.eval l e.L = [(e.L[0]'(by omega)).eval l, (e.L[1]'(by omega)).eval l] := by
      obtain ⟨a, b, ha⟩ : ∃ a b, e.L = [a, b] := Nhm l2
      simp [Exs.eval_map, ha]
     rw [hE] at hR
     simp only at hR
     have hp : slV e.z e.L.length (Exs.cs e.L) = .fsl e.L.length (Exs.cs e.L) := Ne9 (i := 0) (by omega)
     rw [hp] at kB hlv
     have hld : ∀ st, NaL st 4 (.fptr (Exs.cs e.L)) = _ := fun st => Nec (st := st) (l := e.L) (i := 0) (by omega)
     have hld2 : ∀ st, NaL st 4 (.fptr ((Exs.cs e.L).drop 4)) = _ := fun st => Nec (st := st) (l := e.L) (i := 1) (by omega)
     have gA := gE (e.L[0]'(by omega)) (List.getElem_mem _)
     have gB := gE (e.L[1]'(by omega)) (List.getElem_mem _)
     (try rw [Z0])
     (try simp (maxSteps := 2000000) (disch := first | omega | rfl | assumption) only [↓Xp, ↓Xt, Xq, Xc, Nah, Naa, Nat.reduceAdd, Nat.reduceMul, Nat.reduceLT, Nat.reduceEqDiff, reduceIte, Xa, Xn, unP, Naf, Nae, Nad, Xm, Nat.reduceLeDiff, List.nil_append, List.cons_append, g1, g2, kB, b1, b2, b3, c1, c2, hlv, hld, hld2, hsz, NaA, Nal])
     (try rw [Z0])
     (try simp (maxSteps := 2000000) (disch := first | omega | rfl | assumption) only [↓Xp, ↓Xt, Xq, Xc, Nah, Naa, Nat.reduceAdd, Nat.reduceMul, Nat.reduceLT, Nat.reduceEqDiff, reduceIte, Xa, Xn, unP, Naf, Nae, Nad, Xm, Nat.reduceLeDiff, List.nil_append, List.cons_append, g1, g2, kB, b1, b2, b3, c1, c2, hlv, hld, hld2, hsz, NaA, Nal])
     (try rw [Z0])
     (try simp (maxSteps := 2000000) (disch := first | omega | rfl | assumption) only [↓Xp, ↓Xt, Xq, Xc, Nah, Naa, Nat.reduceAdd, Nat.reduceMul, Nat.reduceLT, Nat.reduceEqDiff, reduceIte, Xa, Xn, unP, Naf, Nae, Nad, Xm, Nat.reduceLeDiff, List.nil_append, List.cons_append, g1, g2, kB, b1, b2, b3, c1, c2, hlv, hld, hld2, hsz, NaA, Nal])
     (try rw [Z0])
     (try simp (maxSteps := 2000000) (disch := first | omega | rfl | assumption) only [↓Xp, ↓Xt, Xq, Xc, Nah, Naa, Nat.reduceAdd, Nat.reduceMul, Nat.reduceLT, Nat.reduceEqDiff, reduceIte, Xa, Xn, unP, Naf, Nae, Nad, Xm, Nat.reduceLeDiff, List.nil_append, List.cons_append, g1, g2, kB, b1, b2, b3, c1, c2, hlv, hld, hld2, hsz, NaA, Nal])
     (try rw [Z0])
     (try simp (maxSteps := 2000000) (disch := first | omega | rfl | assumption) only [↓Xp, ↓Xt, Xq, Xc, Nah, Naa, Nat.reduceAdd, Nat.reduceMul, Nat.reduceLT, Nat.reduceEqDiff, reduceIte, Xa, Xn, unP, Naf, Nae, Nad, Xm, Nat.reduceLeDiff, List.nil_append, List.cons_append, g1, g2, kB, b1, b2, b3, c1, c2, hlv, hld, hld2, hsz, NaA, Nal])
     (try rw [Z0])
     (try simp (maxSteps := 2000000) (disch := first | omega | rfl | assumption) only [↓Xp, ↓Xt, Xq, Xc, Nah, Naa, Nat.reduceAdd, Nat.reduceMul, Nat.reduceLT, Nat.reduceEqDiff, reduceIte, Xa, Xn, unP, Naf, Nae, Nad, Xm, Nat.reduceLeDiff, List.nil_append, List.cons_append, g1, g2, kB, b1, b2, b3, c1, c2, hlv, hld, hld2, hsz, NaA, Nal])
     (try rw [Z0])
     (try simp (maxSteps := 2000000) (disch := first | omega | rfl | assumption) only [↓Xp, ↓Xt, Xq, Xc, Nah, Naa, Nat.reduceAdd, Nat.reduceMul, Nat.reduceLT, Nat.reduceEqDiff, reduceIte, Xa, Xn, unP, Naf, Nae, Nad, Xm, Nat.reduceLeDiff, List.nil_append, List.cons_append, g1, g2, kB, b1, b2, b3, c1, c2, hlv, hld, hld2, hsz, NaA, Nal])
     (try rw [Z0])
     (try simp (maxSteps := 2000000) (disch := first | omega | rfl | assumption) only [↓Xp, ↓Xt, Xq, Xc, Nah, Naa, Nat.reduceAdd, Nat.reduceMul, Nat.reduceLT, Nat.reduceEqDiff, reduceIte, Xa, Xn, unP, Naf, Nae, Nad, Xm, Nat.reduceLeDiff, List.nil_append, List.cons_append, g1, g2, kB, b1, b2, b3, c1, c2, hlv, hld, hld2, hsz, NaA, Nal])
     (try rw [Z0])
     (try simp (maxSteps := 2000000) (disch := first | omega | rfl | assumption) only [↓Xp, ↓Xt, Xq, Xc, Nah, Naa, Nat.reduceAdd, Nat.reduceMul, Nat.reduceLT, Nat.reduceEqDiff, reduceIte, Xa, Xn, unP, Naf, Nae, Nad, Xm, Nat.reduceLeDiff, List.nil_append, List.cons_append, g1, g2, kB, b1, b2, b3, c1, c2, hlv, hld, hld2, hsz, NaA, Nal])
     refine NbS (Ndp (NbW _) rfl) (gQ (e.L[0]'(by omega)) (List.getElem_mem _)) rfl rfl ?_
     (try rw [Z0])
     (try simp (maxSteps := 2000000) (disch := first | omega | rfl | assumption) only [↓Xp, ↓Xt, Xq, Xc, Nah, Naa, Nat.reduceAdd, Nat.reduceMul, Nat.reduceLT, Nat.reduceEqDiff, reduceIte, Xa, Xn, unP, Naf, Nae, Nad, Xm, Nat.reduceLeDiff, List.nil_append, List.cons_append, g1, g2, kB, hld, hld2, hsz, NaA, Nal])
     refine NbS (Ndp (NbW _) rfl) (gQ (e.L[1]'(by omega)) (List.getElem_mem _)) rfl rfl ?_
     (try rw [Z0])
     (try simp (maxSteps := 2000000) (disch := first | omega | rfl | assumption) only [↓Xp, ↓Xt, Xq, Xc, Nah, Naa, Nat.reduceAdd, Nat.reduceMul, Nat.reduceLT, Nat.reduceEqDiff, reduceIte, Xa, Xn, unP, Naf, Nae, Nad, Xm, Nat.reduceLeDiff, List.nil_append, List.cons_append])
     refine NbS Ngr (gT _ _ _) rfl rfl ?_
     (try rw [Z0])
     (try simp (maxSteps := 2000000) (disch := first | omega | rfl | assumption) only [↓Xp, ↓Xt, Xq, Xc, Nah, Naa, Nat.reduceAdd, Nat.reduceMul, Nat.reduceLT, Nat.reduceEqDiff, reduceIte, Xa, Xn, unP, Naf, Nae, Nad, Xm, Nat.reduceLeDiff, List.nil_append, List.cons_append])
     exact ⟨nofun, _, rfl, by simp only [NbO, Env.get_put, if_true]; rw [hR]⟩
    ·have c2 : ((e.L.length : Int) == Int.ofNat 2) = false := by simp; omega
     have hE : R = 0 := by
      rw [← hR, Exs.eval_map]
      match e.L, l1, l2 with
      | [], _, _ => rfl
      | a :: b :: c :: r, _, _ => rfl
     (try rw [Z0])
     (try simp (maxSteps := 2000000) (disch := first | omega | rfl | assumption) only [↓Xp, ↓Xt, Xq, Xc, Nah, Naa, Nat.reduceAdd, Nat.reduceMul, Nat.reduceLT, Nat.reduceEqDiff, reduceIte, Xa, Xn, unP, Naf, Nae, Nad, Xm, Nat.reduceLeDiff, List.nil_append, List.cons_append, g1, g2, kB, b1, b2, b3, c1, c2, hlv])
     (try rw [Z0])
     (try simp (maxSteps := 2000000) (disch := first | omega | rfl | assumption) only [↓Xp, ↓Xt, Xq, Xc, Nah, Naa, Nat.reduceAdd, Nat.reduceMul, Nat.reduceLT, Nat.reduceEqDiff, reduceIte, Xa, Xn, unP, Naf, Nae, Nad, Xm, Nat.reduceLeDiff, List.nil_append, List.cons_append, g1, g2, kB, b1, b2, b3, c1, c2, hlv])
     (try rw [Z0])
     (try simp (maxSteps := 2000000) (disch := first | omega | rfl | assumption) only [↓Xp, ↓Xt, Xq, Xc, Nah, Naa, Nat.reduceAdd, Nat.reduceMul, Nat.reduceLT, Nat.reduceEqDiff, reduceIte, Xa, Xn, unP, Naf, Nae, Nad, Xm, Nat.reduceLeDiff, List.nil_append, List.cons_append, g1, g2, kB, b1, b2, b3, c1, c2, hlv])
     (try rw [Z0])
     (try simp (maxSteps := 2000000) (disch := first | omega | rfl | assumption) only [↓Xp, ↓Xt, Xq, Xc, Nah, Naa, Nat.reduceAdd, Nat.reduceMul, Nat.reduceLT, Nat.reduceEqDiff, reduceIte, Xa, Xn, unP, Naf, Nae, Nad, Xm, Nat.reduceLeDiff, List.nil_append, List.cons_append, g1, g2, kB, b1, b2, b3, c1, c2, hlv])
     (try rw [Z0])
     (try simp (maxSteps := 2000000) (disch := first | omega | rfl | assumption) only [↓Xp, ↓Xt, Xq, Xc, Nah, Naa, Nat.reduceAdd, Nat.reduceMul, Nat.reduceLT, Nat.reduceEqDiff, reduceIte, Xa, Xn, unP, Naf, Nae, Nad, Xm, Nat.reduceLeDiff, List.nil_append, List.cons_append, g1, g2, kB, b1, b2, b3, c1, c2, hlv])
     (try rw [Z0])
     (try simp (maxSteps := 2000000) (disch := first | omega | rfl | assumption) only [↓Xp, ↓Xt, Xq, Xc, Nah, Naa, Nat.reduceAdd, Nat.reduceMul, Nat.reduceLT, Nat.reduceEqDiff, reduceIte, Xa, Xn, unP, Naf, Nae, Nad, Xm, Nat.reduceLeDiff, List.nil_append, List.cons_append, g1, g2, kB, b1, b2, b3, c1, c2, hlv])
     (try rw [Z0])
     (try simp (maxSteps := 2000000) (disch := first | omega | rfl | assumption) only [↓Xp, ↓Xt, Xq, Xc, Nah, Naa, Nat.reduceAdd, Nat.reduceMul, Nat.reduceLT, Nat.reduceEqDiff, reduceIte, Xa, Xn, unP, Naf, Nae, Nad, Xm, Nat.reduceLeDiff, List.nil_append, List.cons_append, g1, g2, kB, b1, b2, b3, c1, c2, hlv])
     (try rw [Z0])
     (try simp (maxSteps := 2000000) (disch := first | omega | rfl | assumption) only [↓Xp, ↓Xt, Xq, Xc, Nah, Naa, Nat.reduceAdd, Nat.reduceMul, Nat.reduceLT, Nat.reduceEqDiff, reduceIte, Xa, Xn, unP, Naf, Nae, Nad, Xm, Nat.reduceLeDiff, List.nil_append, List.cons_append, g1, g2, kB, b1, b2, b3, c1, c2, hlv])
     (try rw [Z0])
     (try simp (maxSteps := 2000000) (disch := first | omega | rfl | assumption) only [↓Xp, ↓Xt, Xq, Xc, Nah, Naa, Nat.reduceAdd, Nat.reduceMul, Nat.reduceLT, Nat.reduceEqDiff, reduceIte, Xa, Xn, unP, Naf, Nae, Nad, Xm, Nat.reduceLeDiff, List.nil_append, List.cons_append, g1, g2, kB, b1, b2, b3, c1, c2, hlv])
     exact ⟨nofun, _, rfl, by simp only [NbO, Env.get_put, if_true]; rw [hE]; rfl⟩
   have b3 : ((k : Int) == Int.ofNat 3) = false := by simp; omega
   rw [if_neg h3] at hR
   (try rw [Z0])
   (try simp (maxSteps := 2000000) (disch := first | omega | rfl | assumption) only [↓Xp, ↓Xt, Xq, Xc, Nah, Naa, Nat.reduceAdd, Nat.reduceMul, Nat.reduceLT, Nat.reduceEqDiff, reduceIte, Xa, Xn, unP, Naf, Nae, Nad, Xm, Nat.reduceLeDiff, List.nil_append, List.cons_append, g1, g2, kB, b1, b2, b3])
   (try rw [Z0])
   (try simp (maxSteps := 2000000) (disch := first | omega | rfl | assumption) only [↓Xp, ↓Xt, Xq, Xc, Nah, Naa, Nat.reduceAdd, Nat.reduceMul, Nat.reduceLT, Nat.reduceEqDiff, reduceIte, Xa, Xn, unP, Naf, Nae, Nad, Xm, Nat.reduceLeDiff, List.nil_append, List.cons_append, g1, g2, kB, b1, b2, b3])
   (try rw [Z0])
   (try simp (maxSteps := 2000000) (disch := first | omega | rfl | assumption) only [↓Xp, ↓Xt, Xq, Xc, Nah, Naa, Nat.reduceAdd, Nat.reduceMul, Nat.reduceLT, Nat.reduceEqDiff, reduceIte, Xa, Xn, unP, Naf, Nae, Nad, Xm, Nat.reduceLeDiff, List.nil_append, List.cons_append, g1, g2, kB, b1, b2, b3])
   (try rw [Z0])
   (try simp (maxSteps := 2000000) (disch := first | omega | rfl | assumption) only [↓Xp, ↓Xt, Xq, Xc, Nah, Naa, Nat.reduceAdd, Nat.reduceMul, Nat.reduceLT, Nat.reduceEqDiff, reduceIte, Xa, Xn, unP, Naf, Nae, Nad, Xm, Nat.reduceLeDiff, List.nil_append, List.cons_append, g1, g2, kB, b1, b2, b3])
   (try rw [Z0])
   (try simp (maxSteps := 2000000) (disch := first | omega | rfl | assumption) only [↓Xp, ↓Xt, Xq, Xc, Nah, Naa, Nat.reduceAdd, Nat.reduceMul, Nat.reduceLT, Nat.reduceEqDiff, reduceIte, Xa, Xn, unP, Naf, Nae, Nad, Xm, Nat.reduceLeDiff, List.nil_append, List.cons_append, g1, g2, kB, b1, b2, b3])
   (try rw [Z0])
   (try simp (maxSteps := 2000000) (disch := first | omega | rfl | assumption) only [↓Xp, ↓Xt, Xq, Xc, Nah, Naa, Nat.reduceAdd, Nat.reduceMul, Nat.reduceLT, Nat.reduceEqDiff, reduceIte, Xa, Xn, unP, Naf, Nae, Nad, Xm, Nat.reduceLeDiff, List.nil_append, List.cons_append, g1, g2, kB, b1, b2, b3])
   (try rw [Z0])
   (try simp (maxSteps := 2000000) (disch := first | omega | rfl | assumption) only [↓Xp, ↓Xt, Xq, Xc, Nah, Naa, Nat.reduceAdd, Nat.reduceMul, Nat.reduceLT, Nat.reduceEqDiff, reduceIte, Xa, Xn, unP, Naf, Nae, Nad, Xm, Nat.reduceLeDiff, List.nil_append, List.cons_append, g1, g2, kB, b1, b2, b3])
   (try rw [Z0])
   (try simp (maxSteps := 2000000) (disch := first | omega | rfl | assumption) only [↓Xp, ↓Xt, Xq, Xc, Nah, Naa, Nat.reduceAdd, Nat.reduceMul, Nat.reduceLT, Nat.reduceEqDiff, reduceIte, Xa, Xn, unP, Naf, Nae, Nad, Xm, Nat.reduceLeDiff, List.nil_append, List.cons_append, g1, g2, kB, b1, b2, b3])
   (try rw [Z0])
   (try simp (maxSteps := 2000000) (disch := first | omega | rfl | assumption) only [↓Xp, ↓Xt, Xq, Xc, Nah, Naa, Nat.reduceAdd, Nat.reduceMul, Nat.reduceLT, Nat.reduceEqDiff, reduceIte, Xa, Xn, unP, Naf, Nae, Nad, Xm, Nat.reduceLeDiff, List.nil_append, List.cons_append, g1, g2, kB, b1, b2, b3])
   exact ⟨nofun, _, rfl, by simp only [NbO, Env.get_put, if_true]; rw [← hR]; rfl⟩
end Go.Pe
