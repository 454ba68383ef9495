/-
 Ev, events, Read, Frame, by the interpreter of plain data. No condition.
-/
import Derived.Test.YtogdkhejfkbnmaaEvtB
set_option linter.unusedVariables false
set_option linter.unusedSimpArgs false
set_option maxHeartbeats 8000000
namespace Go.Pe
open Go Go.Am Go.RowKit

structure Ev where
 T : Int
 O : UInt8
 J : Int
 A : Int
 B : Int
 deriving DecidableEq
def Ev.zero : Ev := ⟨0, 0, 0, 0, 0⟩
def evC (e : Ev) : List PV := [.i .i64 e.T, .i .u8 e.O.toNat, .i .i64 e.J, .i .i64 e.A, .i .i64 e.B]
def Nay (l : List Ev) : List PV := l.flatMap evC
theorem NgF (e : Ev) : (evC e).length = 5 := rfl
theorem Npq (e : Ev) : (evC e).all PV.one = true := rfl
theorem NaI : ∀ l : List Ev, (Nay l).length = l.length * 5
 | [] => rfl
 | e :: r => by
   have : Nay (e :: r) = evC e ++ Nay r := rfl
   rw [this, List.length_append, NaI r, NgF, List.length_cons]
   omega
theorem Njb (l : List Ev) (e : Ev) : Nay l ++ evC e = Nay (l ++ [e]) := by simp [Nay]
def Ncf (l : List UInt8) (at0 : Int) (x : Ev) : Ev × Int × Int :=
 if at0 < 0 ∨ (l.length : Int) < at0 then (.zero, 0, 2)
 else if at0 = l.length then (.zero, 0, 11)
 else
  let s1 := Na4 l x.T (at0 + 1, 0)
  let s2 := Na4 l x.J s1.2
  let s3 := Na4 l x.A s2.2
  let s4 := Na4 l x.B s3.2
  if s4.2.2 = 0 then (⟨s1.1, l.getD at0.toNat 0, s2.1, s3.1, s4.1⟩, s4.2.1, 0) else (.zero, 0, s4.2.2)
def Nnv (p : Ev × Int × Int) : PV := .tup [.agg (evC p.1), .i .i64 p.2.1, .i .i64 p.2.2]
theorem Nqc (l : List UInt8) (at0 : Int) (x : Ev) : NrA l at0 x.T x.J x.A x.B = Nnv (Ncf l at0 x) := by
 unfold NrA Ncf
 simp only []
 repeat' split
 all_goals rfl
def Ncu (body : List UInt8) : Nat → Int → Ev → List Ev → Option (List Ev × Int)
 | 0, at0, _, acc => some (acc, at0)
 | n + 1, at0, x, acc => if (Ncf body at0 x).2.2 = 0 then Ncu body n (Ncf body at0 x).2.1 (Ncf body at0 x).1 (acc ++ [(Ncf body at0 x).1]) else none
def NcE (body : List UInt8) : Option (List Ev × Bool) :=
 if (Nax body 0).2.2 = 0 ∧ 1 ≤ (Nax body 0).1 ∧ (Nax body 0).1 ≤ 4096 then
  match Ncu body (Nax body 0).1 (Nax body 0).2.1 .zero [] with
  | some (l, a) => some (l, a == (body.length : Int))
  | none => none
 else none
def Nfk (body : List UInt8) : PV := match NcE body with
 | some (l, b) => .tup [.osl 5 l.length (Nay l), .b b]
 | none => .tup [.nsl, .b false]
def OutE (st : St) (v : PV) (l : List Ev) : Prop := (v = .nsl ∧ l = []) ∨ ∃ k, v = .rsl k 5 0 l.length ∧ st.get k = some (.cells (Nay l) false) ∧ k < st.cnt
theorem OutE.mono {st st' : St} {v : PV} {l : List Ev} (h : OutE st v l) (hg : ∀ k, k < st.cnt → (∀ a b c, v = .rsl k a b c → st'.get k = st.get k)) (hc : st.cnt ≤ st'.cnt) : OutE st' v l := by
 rcases h with h | ⟨k, h1, h2, h3⟩
 ·exact .inl h
 ·exact .inr ⟨k, h1, by rw [hg k h3 _ _ _ h1]; exact h2, by omega⟩
theorem Nr5 {st : St} {v : PV} {l : List Ev} {e : Ev} (h : OutE st v l) {key : Nat} (hl : (l.length + 1) * 40 ≤ maxBytes) :
 ∃ st', NaJ st key 5 40 1 (evC e) v = some (.rsl key 5 0 (l ++ [e]).length, st') ∧ st'.get key = some (.cells (Nay (l ++ [e])) false) ∧ st'.cnt = st.cnt ∧ ∀ j, j ≠ key → (∀ a b c, v ≠ .rsl j a b c) → st'.get j = st.get j := by
 rcases h with ⟨rfl, rfl⟩ | ⟨k, rfl, hk, _⟩
 ·refine ⟨st.put key (some (.cells (evC e) false)), ?_, ?_, rfl, fun j hj _ => St.get_put_ne (fun e => hj e.symm)⟩
  ·unfold NaJ
   rw [if_neg (by omega), if_pos (by simpa using hl)]
   rfl
  ·rw [St.get_putk]
   simp [Nay]
 ·refine ⟨(st.put k none).put key (some (.cells (Nay (l ++ [e])) false)), ?_, St.get_putk _ _ _, rfl, fun j hj hv => ?_⟩
  ·unfold NaJ
   simp only [hk, NaI, Njb]
   rw [if_pos ⟨trivial, trivial, trivial, hl⟩]
   simp
  ·rw [St.get_put_ne (fun e => hj e.symm), St.get_put_ne (fun e => hv 5 0 l.length (by rw [e]))]
theorem Noa (st : St) {v : PV} (hv : v.flat = true) (a : Int) (x : Ev) : NaU st [v, .i .i64 a, .agg (evC x)] = some [v, .i .i64 a, .agg (evC x)] := by
 have e1 : deep st (11 + 1) v = some v := NcU 11 hv
 have e2 : deep st (11 + 1) (.i .i64 a) = some (.i .i64 a) := rfl
 have e3 : deep st (11 + 1) (.agg (evC x)) = some (.agg (evC x)) := rfl
 show mapO (deep st (11 + 1)) _ = _
 simp only [mapO, e1, e2, e3]
theorem Nlc {st : St} {k : Nat} {l : List Ev} {b : Bool} (hk : st.get k = some (.cells (Nay l) false)) : Naq st (.tup [.rsl k 5 0 l.length, .b b]) = some (.tup [.osl 5 l.length (Nay l), .b b]) := by
 have hw : Ncp? st (.rsl k 5 0 l.length) = some (k, 5, l.length, Nay l) := by
  unfold Ncp?
  simp only [hk, NaI]
  rw [if_pos ⟨trivial, trivial, by omega⟩]
 have hfl : (Nay l).all PV.flat = true := by
  rw [List.all_eq_true]
  intro p hp
  simp only [Nay, List.mem_flatMap] at hp
  obtain ⟨e, _, hp⟩ := hp
  simp only [evC, List.mem_cons, List.not_mem_nil, or_false] at hp
  rcases hp with rfl | rfl | rfl | rfl | rfl <;> rfl
 have hf : NaE st [.rsl k 5 0 l.length, .b b] = some (0, k, 5, l.length, Nay l) := by
  unfold NaE
  rw [hw]
 unfold Naq
 simp only [hf, Nbu hfl, NaA hfl]
 rfl
theorem Nmo {cfg : Cfg} (hf : cfg.fn 58 = some m58) (hx1 : cfg.ext 45 = some NcM) (hx2 : cfg.ext 83 = some NlM) {fuel : Nat} (hfu : 4100 ≤ fuel) {v : PV} {l : List UInt8} (hv : inL v = some l) (hll : l.length ≤ 140737488355328) :
 ∃ r st', NaB cfg (fuel + 1) 58 [v] { sto := .leaf, cnt := 1 } = some (r, st') ∧ Naq st' r = some (Nfk l) := by
 refine Naw hf ?_
 unfold m58
 have hlen := Nba hv
 have hlt := Nbx l 0
 have c1 : ∀ (st : St) (key : Nat), Naf (Nag cfg (NaB cfg fuel) 45) false st key [v, .i .i64 (.ofNat 0)] = some (.tup [.i .u64 ((Nax l 0).1 : Int), .i .i64 (Nax l 0).2.1, .i .i64 (Nax l 0).2.2], st) := by
  intro st key
  refine Nap (by simp only [List.all_cons, Na3 hv, List.all_nil, Bool.and_self, Bool.true_and]; rfl) ?_ rfl
  rw [Nad hx1]
  unfold NcM
  simp only [hv]
  rw [if_pos hll]
  rfl
 have c2 : ∀ (st : St) (key : Nat) (a : Int) (x : Ev), Naf (Nag cfg (NaB cfg fuel) 83) false st key [v, .i .i64 a, .agg (evC x)] = some (.tup [.agg (evC (Ncf l a x).1), .i .i64 (Ncf l a x).2.1, .i .i64 (Ncf l a x).2.2], st) := by
  intro st key a x
  refine Nb1 (Noa st (Na3 hv) a x) ?_ rfl rfl
  rw [Nad hx2]
  unfold NlM evC
  simp only [hv]
  rw [if_pos hll, Nqc]
  rfl
 unfold Nfk NcE
 generalize Nax l 0 = p at *
 by_cases h1 : p.2.2 ≠ 0
 ·have e1 : (p.2.2 != Int.ofNat 0) = true := by simpa using h1
  rw [if_neg (fun q => h1 q.1)]
  simp only [Nae, ↓Z0, ↓Xp, ↓Xt, Xq, Xc, Nac, Naa, Nat.reduceAdd, Nat.reduceMul, Nat.reduceLT, Nat.reduceEqDiff, reduceIte, Xm, Nat.reduceLeDiff, c1, e1]
  refine ⟨nofun, _, rfl, ?_⟩
  simp only [Naz, ↓Z0, ↓Xp, ↓Xt, Xq, Xc, Nac, Naa, Nat.reduceAdd, Nat.reduceMul, Nat.reduceLT, Nat.reduceEqDiff, reduceIte]
  exact Nal rfl
 have e1 : (p.2.2 != Int.ofNat 0) = false := by simpa using h1
 have h1' : p.2.2 = 0 := by simpa using h1
 by_cases h2 : p.1 < 1
 ·have e2 : (p.1 : Int) < Int.ofNat 1 := by show (p.1 : Int) < 1; omega
  rw [if_neg (fun q => by omega)]
  simp only [Nae, ↓Z0, ↓Xp, ↓Xt, Xq, Xc, Nac, Naa, Nat.reduceAdd, Nat.reduceMul, Nat.reduceLT, Nat.reduceEqDiff, reduceIte, Xm, Nat.reduceLeDiff, c1, e1, e2]
  refine ⟨nofun, _, rfl, ?_⟩
  simp only [Naz, ↓Z0, ↓Xp, ↓Xt, Xq, Xc, Nac, Naa, Nat.reduceAdd, Nat.reduceMul, Nat.reduceLT, Nat.reduceEqDiff, reduceIte]
  exact Nal rfl
 have e2 : ¬ (p.1 : Int) < Int.ofNat 1 := by show ¬ (p.1 : Int) < 1; omega
 by_cases h3 : 4096 < p.1
 ·have e3 : (p.1 : Int) > Int.ofNat 4096 := by show (p.1 : Int) > 4096; omega
  rw [if_neg (fun q => by omega)]
  simp only [Nae, ↓Z0, ↓Xp, ↓Xt, Xq, Xc, Nac, Naa, Nat.reduceAdd, Nat.reduceMul, Nat.reduceLT, Nat.reduceEqDiff, reduceIte, Xm, Nat.reduceLeDiff, c1, e1, e2, e3]
  refine ⟨nofun, _, rfl, ?_⟩
  simp only [Naz, ↓Z0, ↓Xp, ↓Xt, Xq, Xc, Nac, Naa, Nat.reduceAdd, Nat.reduceMul, Nat.reduceLT, Nat.reduceEqDiff, reduceIte]
  exact Nal rfl
 have e3 : ¬ (p.1 : Int) > Int.ofNat 4096 := by show ¬ (p.1 : Int) > 4096; omega
 rw [if_pos ⟨h1', by omega, by omega⟩]
 -- up to the loop
 refine Za (fun x => x.env.get 0 = v ∧ x.st = ⟨.leaf, 17⟩) ?_ ?_
 ·simp only [Nae, ↓Z0, ↓Xp, ↓Xt, Xq, Xc, Nac, Naa, Nat.reduceAdd, Nat.reduceMul, Nat.reduceLT, Nat.reduceEqDiff, reduceIte]
  (repeat' (first | exact True.intro | rfl | assumption | omega | apply And.intro))
 rintro ⟨env, st1⟩ ⟨g0, rfl⟩
 simp only at g0
 refine Za (fun x => x.env.get 0 = v ∧ x.env.get 4 = PV.i .u64 (p.1 : Int) ∧ x.env.get 5 = PV.i .i64 p.2.1 ∧ x.env.get 6 = PV.i .i64 p.2.2 ∧ ∃ c, x.st = ⟨.leaf, c⟩) ?_ ?_
 ·simp only [↓Z0, ↓Xp, ↓Xt, Xq, Xc, Nac, Naa, Nat.reduceAdd, Nat.reduceMul, Nat.reduceLT, Nat.reduceEqDiff, reduceIte, Xm, Nat.reduceLeDiff, g0, c1]
  exact ⟨_, rfl⟩
 rintro ⟨env, st1⟩ ⟨g0, g4, g5, g6, c, rfl⟩
 simp only at g0 g4 g5 g6
 refine Za (fun x => x.env.get 0 = v ∧ x.env.get 4 = PV.i .u64 (p.1 : Int) ∧ x.env.get 5 = PV.i .i64 p.2.1 ∧ ∃ c, x.st = ⟨.leaf, c⟩) ?_ ?_
 ·simp only [↓Z0, ↓Xp, ↓Xt, Xq, Xc, Nac, Naa, Nat.reduceAdd, Nat.reduceMul, Nat.reduceLT, Nat.reduceEqDiff, reduceIte, Xm, Nat.reduceLeDiff, g0, g4, g5, g6, e1, e2, e3]
  exact ⟨_, rfl⟩
 clear g0 g4 g5 g6
 rintro ⟨env, st1⟩ ⟨g0, g4, g5, c, rfl⟩
 simp only at g0 g4 g5
 generalize hRes : Ncu l p.1 p.2.1 .zero [] = Res
 rw [Z0]
 simp only [↓Xp, ↓Xt, Xq, Xc, Nac, Naa, Nat.reduceAdd, Nat.reduceMul, Nat.reduceLT, Nat.reduceEqDiff, reduceIte]
 rw [Z0]
 simp only [↓Xp, ↓Xt, Xq, Xc, Nac, Naa, Nat.reduceAdd, Nat.reduceMul, Nat.reduceLT, Nat.reduceEqDiff, reduceIte, Xm, Nat.reduceLeDiff]
 have fin : ∀ (x : Now), x.env.get 0 = x.env.get 0 → True := fun _ _ => trivial
 rw [Z0]
 refine WC.mono (Q := fun e x => (e = .nrm ∧ ∃ (L : List Ev) (a : Int) (w : PV), Res = some (L, a) ∧ x.env.get 0 = v ∧ x.env.get 5 = PV.i .i64 a ∧ x.env.get 7 = w ∧ OutE x.st w L ∧ L.length = p.1) ∨ (e = .ret ∧ Res = none ∧ x.env.get 2 = .nsl ∧ x.env.get 3 = .b false)) ?_ ?_
 ·simp only [↓Z0, ↓Xp, ↓Xt, Xq, Xc, Nac, Naa, Nat.reduceAdd, Nat.reduceMul, Nat.reduceLT, Nat.reduceEqDiff, reduceIte, Xm, Nat.reduceLeDiff, g0, g4, g5]
  refine Z9 (k := p.1 - 0) (fun d x => ∃ (i : Nat) (a : Int) (X : Ev) (acc : List Ev) (w : PV) (k8 : Nat), i ≤ p.1 ∧ d = p.1 - i ∧ Ncu l (p.1 - i) a X acc = Res ∧ acc.length = i ∧ x.env.get 0 = v ∧ x.env.get 5 = .i .i64 a ∧ x.env.get 7 = w ∧ OutE x.st w acc ∧ x.env.get 8 = .ptr k8 0 ∧ x.st.get k8 = some (.cells (evC X) false) ∧ k8 < x.st.cnt ∧ (∀ q b c, w ≠ .rsl k8 q b c) ∧ x.env.get 25 = .i .u64 (p.1 : Int) ∧ x.env.get 26 = .i .u64 (i : Int)) ?_ ?_ (by omega)
  ·rintro d ⟨env, ⟨sto, c⟩⟩ ⟨i, a, X, acc, w, k8, hi, rfl, hres, hacc, g0, g5, g7, ho, g8, hk8, hk8c, hw8, g25, g26⟩
   simp only at g0 g5 g7 ho g8 hk8 hk8c g25 g26
   have hk8' : ∀ n, St.get ⟨sto, n⟩ k8 = some (.cells (evC X) false) := fun _ => hk8
   by_cases hlti0 : i < p.1
   ·have hlti : ((i : Nat) : Int) < (p.1 : Int) := by omega
    have hn : p.1 - i = (p.1 - (i + 1)) + 1 := by omega
    rw [hn] at hres
    have er : Ncu l (p.1 - (i + 1) + 1) a X acc = if (Ncf l a X).2.2 = 0 then Ncu l (p.1 - (i + 1)) (Ncf l a X).2.1 (Ncf l a X).1 (acc ++ [(Ncf l a X).1]) else none := rfl
    rw [er] at hres
    have c2' := fun st key => c2 st key a X
    have hcut : cut? (evC X) 0 5 = some (evC X) := rfl
    have hwi : IntKind.u64.wrap ((i : Int) + Int.ofNat 1) = ((i + 1 : Nat) : Int) := by
     rw [Nbm _ ⟨by show (0 : Int) ≤ (i : Int) + 1; omega, by show (i : Int) + 1 < _; omega⟩]; rfl
    generalize Ncf l a X = g at *
    have hst : ∀ n, NaV ⟨sto, n⟩ 5 (.ptr k8 0) (.agg (evC g.1)) = some ((⟨sto, n⟩ : St).put k8 (some (.cells (evC g.1) false))) := fun n => Ndt (v := .agg (evC g.1)) (hk8' n) rfl rfl rfl
    have hld : ∀ n, loadP ⟨sto, n⟩ 5 (.ptr k8 0) = some (evC X) := fun n => Nbt (hk8' n) rfl
    by_cases hok : g.2.2 = 0
    ·rw [if_pos hok] at hres
     have eo : (g.2.2 != Int.ofNat 0) = false := by rw [hok]; rfl
     simp only [↓Z0, ↓Xp, ↓Xt, Xq, Xc, Nac, Naa, Nat.reduceAdd, Nat.reduceMul, Nat.reduceLT, Nat.reduceEqDiff, reduceIte, g0, g5, g7, g8, g25, g26, hlti, hld, c2', List.getElem?_cons_zero, List.getElem?_cons_succ, hst, eo]
     obtain ⟨S2, hS2⟩ : ∃ S, (⟨sto, c + 96⟩ : St).put k8 (some (.cells (evC g.1) false)) = S := ⟨_, rfl⟩
     have q8 : S2.get k8 = some (.cells (evC g.1) false) := by rw [← hS2]; exact St.get_putk _ _ _
     have qc : S2.cnt = c + 96 := by rw [← hS2]; rfl
     have qf : ∀ j, j ≠ k8 → S2.get j = St.get ⟨sto, c⟩ j := by intro j hj; rw [← hS2, St.get_put_ne (fun e => hj e.symm)]; rfl
     simp only [hS2]
     have hld2 : loadP ⟨S2.sto, S2.cnt + 56⟩ 5 (.ptr k8 0) = some (evC g.1) := Nbt (st := ⟨S2.sto, S2.cnt + 56⟩) q8 rfl
     have hfill : Nca [.i .i64 (.ofNat 0), .i .u8 (.ofNat 0), .i .i64 (.ofNat 0), .i .i64 (.ofNat 0), .i .i64 (.ofNat 0)] [(0, 5, .agg (evC g.1))] = some (evC g.1) := rfl
     obtain ⟨S3, hS3⟩ : ∃ S, (⟨S2.sto, S2.cnt + 56⟩ : St).put (S2.cnt + 32) (some (.cells (evC g.1) false)) = S := ⟨_, rfl⟩
     have r3 : S3.get (S2.cnt + 32) = some (.cells (evC g.1) false) := by rw [← hS3]; exact St.get_putk _ _ _
     have rc : S3.cnt = c + 152 := by rw [← hS3]; show S2.cnt + 56 = _; omega
     have rf : ∀ j, j ≠ k8 → j ≠ S2.cnt + 32 → S3.get j = St.get ⟨sto, c⟩ j := by intro j hj hj2; rw [← hS3, St.get_put_ne (fun e => hj2 e.symm)]; exact qf j hj
     have r8 : S3.get k8 = some (.cells (evC g.1) false) := by rw [← hS3, St.get_put_ne (by omega)]; exact q8
     have hcl : cellsOf S3 5 (.rsl (S2.cnt + 32) 5 0 1) = some (1, evC g.1) := by
      unfold cellsOf
      simp only [r3]
      rfl
     have ho3 : OutE S3 w acc := by
      exact ho.mono (fun q hq a b c h => rf q (fun e => hw8 a b c (by rw [← e]; exact h)) (by simp only at hq; omega)) (by show c ≤ S3.cnt; omega)
     obtain ⟨S4, ha, hb, hc4, hf4⟩ := Nr5 (st := S3) (v := w) (l := acc) (e := g.1) ho3 (key := S2.cnt + 40) (by unfold maxBytes; omega)
     simp only [↓Z0, ↓Xp, ↓Xt, Xq, Xc, Nac, Naa, Nat.reduceAdd, Nat.reduceMul, Nat.reduceLT, Nat.reduceEqDiff, reduceIte, hld2, hfill, NgF, hS3, hcl, Npq, ha, hwi]
     refine ⟨p.1 - (i + 1), by omega, i + 1, g.2.1, g.1, acc ++ [g.1], .rsl (S2.cnt + 40) 5 0 (acc ++ [g.1]).length, k8, by omega, rfl, hres, by simp [hacc], rfl, rfl, .inr ⟨S2.cnt + 40, rfl, hb, ?_⟩, rfl, ?_, by omega, ?_, rfl⟩
     ·show S2.cnt + 40 < S4.cnt + 16
      omega
     ·show S4.get k8 = _
      rw [hf4 k8 (by omega) hw8]; exact r8
     ·intro q b c h
      injection h with h5
      omega
    ·rw [if_neg hok] at hres
     have eo : (g.2.2 != Int.ofNat 0) = true := by simpa using hok
     simp only [↓Z0, ↓Xp, ↓Xt, Xq, Xc, Nac, Naa, Nat.reduceAdd, Nat.reduceMul, Nat.reduceLT, Nat.reduceEqDiff, reduceIte, g0, g5, g7, g8, g25, g26, hlti, hld, c2', List.getElem?_cons_zero, List.getElem?_cons_succ, hst, eo]
     right
     (repeat' (first | exact True.intro | rfl | assumption | omega | apply And.intro))
     exact hres.symm
   ·have hie : i = p.1 := by omega
    subst hie
    rw [Nat.sub_self] at hres
    have hres' : some (acc, a) = Res := hres
    simp only [↓Z0, ↓Xp, ↓Xt, Xq, Xc, Nac, Naa, Nat.reduceAdd, Nat.reduceMul, Nat.reduceLT, Nat.reduceEqDiff, reduceIte, g0, g5, g7, g8, g25, g26, Int.lt_irrefl]
    left
    have hA1 := hres'.symm
    have hA2 : OutE ⟨sto, c + 8⟩ w acc := ho.mono (fun _ _ _ _ _ _ => rfl) (Nat.le_add_right _ _)
    refine ⟨acc, a, w, ?_⟩
    (repeat' (first | exact True.intro | rfl | assumption | omega | apply And.intro))
  ·refine ⟨0, p.2.1, .zero, [], .nsl, c + 8, Nat.zero_le _, rfl, hRes, rfl, by simp [Env.get_put, g0], by simp [Env.get_put, g5], by simp [Env.get_put], .inl ⟨rfl, rfl⟩, by simp [Env.get_put], ?_, ?_, (fun _ _ _ h => nomatch h), by simp [Env.get_put], by simp [Env.get_put]⟩
   ·show (St.put ⟨.leaf, c + 16⟩ (c + 8) _).get (c + 8) = _
    rw [St.get_putk]; rfl
   ·show c + 8 < c + 32
    omega
 ·rintro e ⟨env, st1⟩ h
  rcases h with ⟨rfl, L, a, w, rfl, g0, g5, g7, ho, hL⟩ | ⟨rfl, rfl, g2, g3⟩
  ·simp only at g0 g5 g7 ho
   rcases ho with ⟨_, h0⟩ | ⟨k, rfl, hk, _⟩
   ·rw [h0] at hL; simp at hL; omega
   ·simp only [NqG, ↓Z0, ↓Xp, ↓Xt, Xq, Xc, Nac, Naa, Nat.reduceAdd, Nat.reduceMul, Nat.reduceLT, Nat.reduceEqDiff, reduceIte, g0, g5, g7, hlen]
    refine ⟨nofun, _, rfl, ?_⟩
    simp only [Naz, ↓Z0, ↓Xp, ↓Xt, Xq, Xc, Nac, Naa, Nat.reduceAdd, Nat.reduceMul, Nat.reduceLT, Nat.reduceEqDiff, reduceIte]
    exact Nlc hk
  ·simp only at g2 g3
   simp only [Nqu]
   refine ⟨nofun, [.nsl, .b false], ?_, Nal rfl⟩
   simp [mapO, NfC, g2, g3]
end Go.Pe
set_option linter.unusedVariables false
set_option linter.unusedSimpArgs false
namespace Go.Pe
open Go Go.Am Go.RowKit

def Nfe : List PV → Option PV
 | [v] => match inL v with
   | some l => if l.length ≤ 140737488355328 then some (Nfk l) else none
   | none => none
 | _ => none
def Nfx (b : List UInt8) (at0 : Int) : Sum (List Ev × Int) Int :=
 let g := Nax b at0
 if g.2.2 ≠ 0 then .inr g.2.2
 else if 262144 < g.1 then .inr 3
 else if (b.length : Int) - g.2.1 < g.1 + 4 then .inr 11
 else
  let m := (b.drop g.2.1.toNat).take g.1
  if NaD m = (b.drop g.2.1.toNat).take (g.1 + 4) then
   match NcE m with
   | some (l, true) => .inl (l, g.2.1 + g.1 + 4)
   | _ => .inr 10
  else .inr 12
def NfD (b : List UInt8) (at0 : Int) : PV := match Nfx b at0 with
 | .inl (l, a) => .tup [.osl 5 l.length (Nay l), .i .i64 a, .i .i64 0]
 | .inr e => .tup [.nsl, .i .i64 0, .i .i64 e]
theorem Nov {v : PV} {l : List UInt8} (h : inL v = some l) {a n : Nat} (ha : a + n ≤ l.length) (hl : l ≠ []) : Nby 1 (some (.i .i64 (a : Int))) (some (.i .i64 ((a + n : Nat) : Int))) v = some (.fsl n (Nab ((l.drop a).take n))) := by
 rw [Nbd h hl]
 unfold Nby
 simp only [Ncd (show 0 ≤ ((a + n : Nat) : Int) ∧ ((a + n : Nat) : Int) ≤ (l.length : Int) by omega), Ncd (show 0 ≤ (a : Int) ∧ (a : Int) ≤ ((a + n : Nat) : Int) by omega), Int.toNat_natCast, Nai, Nat.mul_one, if_true]
 rw [NbE, Na0, Nat.add_sub_cancel_left]
theorem Nkq (f : Nat) (l : List Ev) : (Nay l).all (PV.closed (f + 1)) = true := by
 rw [List.all_eq_true]
 intro p hp
 simp only [Nay, List.mem_flatMap] at hp
 obtain ⟨e, _, hp⟩ := hp
 simp only [evC, List.mem_cons, List.not_mem_nil, or_false] at hp
 rcases hp with rfl | rfl | rfl | rfl | rfl <;> rfl
theorem NfU {st : St} {k : Nat} {l : List Ev} {a b : Int} (hk : st.get k = some (.cells (Nay l) false)) : Naq st (.tup [.rsl k 5 0 l.length, .i .i64 a, .i .i64 b]) = some (.tup [.osl 5 l.length (Nay l), .i .i64 a, .i .i64 b]) := by
 have hw : Ncp? st (.rsl k 5 0 l.length) = some (k, 5, l.length, Nay l) := by
  unfold Ncp?
  simp only [hk, NaI]
  rw [if_pos ⟨trivial, trivial, by omega⟩]
 have hfl : (Nay l).all PV.flat = true := by
  rw [List.all_eq_true]
  intro p hp
  simp only [Nay, List.mem_flatMap] at hp
  obtain ⟨e, _, hp⟩ := hp
  simp only [evC, List.mem_cons, List.not_mem_nil, or_false] at hp
  rcases hp with rfl | rfl | rfl | rfl | rfl <;> rfl
 have hf : NaE st [.rsl k 5 0 l.length, .i .i64 a, .i .i64 b] = some (0, k, 5, l.length, Nay l) := by
  unfold NaE
  rw [hw]
 unfold Naq
 simp only [hf, Nbu hfl, NaA hfl]
 rfl
theorem Ne0 (st : St) (key : Nat) (m : List UInt8) (e : Int) : ∃ w st', NaC st key (.tup [NkS m, .i .i64 e]) = some (.tup [w, .i .i64 e], st') ∧ ∀ n, NaU ⟨st'.sto, n⟩ [w] = some [.fsl m.length (Nab m)] := by
 unfold NkS
 by_cases h : m = []
 ·rw [if_pos h, h]
  exact ⟨.fsl 0 [], st, rfl, fun _ => rfl⟩
 ·rw [if_neg h]
  refine ⟨.rsl key 1 0 m.length, st.put key (some (.cells (Nab m) false)), rfl, fun n => ?_⟩
  have := Ndm (st := ⟨(st.put key (some (.cells (Nab m) false))).sto, n⟩) 10 (St.get_putk st key (some (.cells (Nab m) false)))
  show mapO (deep _ (11 + 1)) _ = _
  simp only [mapO, this]
theorem NdF (m : List UInt8) (e : Int) : PV.closedB (.tup [NkS m, .i .i64 e]) = true := by
 unfold NkS
 by_cases h : m = []
 ·rw [if_pos h]; rfl
 ·rw [if_neg h]
  show PV.closed (11 + 1) _ = true
  unfold PV.closed
  simp only [List.all_cons, List.all_nil, Bool.and_true]
  have h1 : PV.closed 11 (.osl 1 m.length (Nab m)) = true := by
   show PV.closed (10 + 1) _ = true
   unfold PV.closed
   exact Ndj 9 m
  rw [h1]; rfl
theorem NgJ (L : List Ev) (x : Bool) : PV.closedB (.tup [.osl 5 L.length (Nay L), .b x]) = true := by
 show PV.closed (11 + 1) _ = true
 unfold PV.closed
 simp only [List.all_cons, List.all_nil, Bool.and_true]
 have h1 : PV.closed 11 (.osl 5 L.length (Nay L)) = true := by
  show PV.closed (10 + 1) _ = true
  unfold PV.closed
  exact Nkq 9 L
 rw [h1]; rfl
theorem Np9 {cfg : Cfg} (hf : cfg.fn 38 = some m38) (hx1 : cfg.ext 45 = some NcM) (hx2 : cfg.ext 43 = some Ncj) (hx3 : cfg.ext 58 = some Nfe) {fuel : Nat} {v : PV} {l : List UInt8} {at0 : Int} (hv : inL v = some l) (hll : l.length ≤ 140737488355328) :
 ∃ r st', NaB cfg (fuel + 1) 38 [v, .i .i64 at0] { sto := .leaf, cnt := 1 } = some (r, st') ∧ Naq st' r = some (NfD l at0) := by
 refine Naw hf ?_
 unfold m38
 have hlen := Nba hv
 have hlt := Nbx l at0
 have hok := @NbY l at0
 have c1 : ∀ (st : St) (key : Nat), Naf (Nag cfg (NaB cfg fuel) 45) false st key [v, .i .i64 at0] = some (.tup [.i .u64 ((Nax l at0).1 : Int), .i .i64 (Nax l at0).2.1, .i .i64 (Nax l at0).2.2], st) := by
  intro st key
  refine Nap (by simp only [List.all_cons, Na3 hv, List.all_nil, Bool.and_self, Bool.true_and]; rfl) ?_ rfl
  rw [Nad hx1]
  unfold NcM
  simp only [hv]
  rw [if_pos hll]
  rfl
 unfold NfD Nfx
 simp only []
 generalize Nax l at0 = p at *
 by_cases h1 : p.2.2 ≠ 0
 ·have e1 : (p.2.2 != Int.ofNat 0) = true := by simpa using h1
  rw [if_pos h1]
  simp only [Nae, ↓Z0, ↓Xp, ↓Xt, Xq, Xc, Nac, Naa, Nat.reduceAdd, Nat.reduceMul, Nat.reduceLT, Nat.reduceEqDiff, reduceIte, Xm, Nat.reduceLeDiff, c1, e1]
  refine ⟨nofun, _, rfl, ?_⟩
  simp only [Naz, ↓Z0, ↓Xp, ↓Xt, Xq, Xc, Nac, Naa, Nat.reduceAdd, Nat.reduceMul, Nat.reduceLT, Nat.reduceEqDiff, reduceIte]
  exact Nal rfl
 have e1 : (p.2.2 != Int.ofNat 0) = false := by simpa using h1
 have h1' : p.2.2 = 0 := by simpa using h1
 rw [if_neg h1]
 by_cases h2 : 262144 < p.1
 ·have e2 : (p.1 : Int) > Int.ofNat 262144 := by show (p.1 : Int) > 262144; omega
  rw [if_pos h2]
  simp only [Nae, ↓Z0, ↓Xp, ↓Xt, Xq, Xc, Nac, Naa, Nat.reduceAdd, Nat.reduceMul, Nat.reduceLT, Nat.reduceEqDiff, reduceIte, Xm, Nat.reduceLeDiff, c1, e1, e2]
  refine ⟨nofun, _, rfl, ?_⟩
  simp only [Naz, ↓Z0, ↓Xp, ↓Xt, Xq, Xc, Nac, Naa, Nat.reduceAdd, Nat.reduceMul, Nat.reduceLT, Nat.reduceEqDiff, reduceIte]
  exact Nal rfl
 have e2 : ¬ (p.1 : Int) > Int.ofNat 262144 := by show ¬ (p.1 : Int) > 262144; omega
 rw [if_neg h2]
 obtain ⟨ha0, hal, rest, hrest, hnx, hnl⟩ := hok h1'
 obtain ⟨k, hk⟩ : ∃ k : Nat, p.2.1 = k := ⟨p.2.1.toNat, by omega⟩
 have hkl : k ≤ l.length := by omega
 simp only [hk] at c1
 have hw4 : IntKind.u64.wrap ((p.1 : Int) + Int.ofNat 4) = ((p.1 + 4 : Nat) : Int) := by
  rw [Nbm _ ⟨by show (0 : Int) ≤ (p.1 : Int) + 4; omega, by show (p.1 : Int) + 4 < _; omega⟩]; rfl
 have hws : IntKind.i64.wrap ((l.length : Int) - (k : Int)) = ((l.length - k : Nat) : Int) := by rw [NaK _ (by omega)]; omega
 have hwu : IntKind.u64.wrap ((l.length - k : Nat) : Int) = ((l.length - k : Nat) : Int) := Nbm _ ⟨by omega, by omega⟩
 by_cases h3 : (l.length : Int) - p.2.1 < p.1 + 4
 ·have e3 : ((p.1 + 4 : Nat) : Int) > ((l.length - k : Nat) : Int) := by omega
  rw [if_pos h3]
  simp only [Nae, ↓Z0, ↓Xp, ↓Xt, Xq, Xc, Nac, Naa, Nat.reduceAdd, Nat.reduceMul, Nat.reduceLT, Nat.reduceEqDiff, reduceIte, Xm, Nat.reduceLeDiff, c1, e1, e2, hlen, hw4, hws, hwu, e3]
  refine ⟨nofun, _, rfl, ?_⟩
  simp only [Naz, ↓Z0, ↓Xp, ↓Xt, Xq, Xc, Nac, Naa, Nat.reduceAdd, Nat.reduceMul, Nat.reduceLT, Nat.reduceEqDiff, reduceIte]
  exact Nal rfl
 have e3 : ¬ ((p.1 + 4 : Nat) : Int) > ((l.length - k : Nat) : Int) := by omega
 rw [if_neg h3]
 have hne : l ≠ [] := by intro e; rw [e] at hkl h3; simp at hkl h3; omega
 have hwi : IntKind.i64.wrap (p.1 : Int) = (p.1 : Int) := NaK _ ⟨by omega, by omega⟩
 have hwa : IntKind.i64.wrap ((k : Int) + (p.1 : Int)) = ((k + p.1 : Nat) : Int) := by rw [NaK _ (by omega)]; omega
 have hwb : IntKind.i64.wrap (((k + p.1 : Nat) : Int) + Int.ofNat 4) = ((k + (p.1 + 4) : Nat) : Int) := by
  rw [NaK _ ⟨by show _ ≤ ((k + p.1 : Nat) : Int) + 4; omega, by show ((k + p.1 : Nat) : Int) + 4 < _; omega⟩]
  show ((k + p.1 : Nat) : Int) + 4 = _
  omega
 have hmid := Nov hv (a := k) (n := p.1 + 4) (by omega) hne
 have hkt : p.2.1.toNat = k := by omega
 rw [hkt]
 have hB : ((l.drop k).take (p.1 + 4)).length = p.1 + 4 := by simp; omega
 have hBt : ((l.drop k).take (p.1 + 4)).take p.1 = (l.drop k).take p.1 := by rw [List.take_take]; congr 1; omega
 have hBin : inL (.fsl (p.1 + 4) (Nab ((l.drop k).take (p.1 + 4)))) = some ((l.drop k).take (p.1 + 4)) := by
  have := NbD ((l.drop k).take (p.1 + 4))
  rwa [hB] at this
 generalize (l.drop k).take (p.1 + 4) = B at *
 rw [← hBt]
 have eU : Nb5 B = if NaD (B.take p.1) = B then .tup [NkS (B.take p.1), .i .i64 0] else .tup [.nsl, .i .i64 12] := by
  unfold Nb5
  rw [if_neg (by omega), hB, Nat.add_sub_cancel]
 have hml : (B.take p.1).length ≤ 140737488355328 := by simp; omega
 generalize B.take p.1 = m at *
 have gU : Nag cfg (NaB cfg fuel) 43 [.fsl (p.1 + 4) (Nab B)] = some (Nb5 B) := by
  rw [Nad hx2]
  unfold Ncj
  simp only [hBin]
  rw [if_pos (by omega)]
 by_cases h4 : NaD m = B
 ·rw [if_pos h4] at eU ⊢
  rw [eU] at gU
  have e0 : ((0 : Int) != Int.ofNat 0) = false := rfl
  rw [Z0]
  simp only [Nae, ↓Xp, ↓Xt, Xq, Xc, Nac, Naa, Nat.reduceAdd, Nat.reduceMul, Nat.reduceLT, Nat.reduceEqDiff, reduceIte]
  rw [Z0]
  simp only [↓Xp, ↓Xt, Xq, Xc, Nac, Naa, Nat.reduceAdd, Nat.reduceMul, Nat.reduceLT, Nat.reduceEqDiff, reduceIte, Xm, Nat.reduceLeDiff, c1]
  refine Za (fun x => x.env.get 0 = v ∧ x.env.get 7 = PV.i .u64 (p.1 : Int) ∧ x.env.get 8 = PV.i .i64 (k : Int)) ?_ ?_
  ·simp only [↓Z0, ↓Xp, ↓Xt, Xq, Xc, Nac, Naa, Nat.reduceAdd, Nat.reduceMul, Nat.reduceLT, Nat.reduceEqDiff, reduceIte, Xm, Nat.reduceLeDiff, e1, e2, hlen, hw4, hws, hwu, e3]
   (repeat' (first | exact True.intro | rfl | assumption | omega | apply And.intro))
  rintro ⟨env, st1⟩ ⟨g0, g7, g8⟩
  simp only at g0 g7 g8
  rw [Z0]
  simp only [↓Xp, ↓Xt, Xq, Xc, Nac, Naa, Nat.reduceAdd, Nat.reduceMul, Nat.reduceLT, Nat.reduceEqDiff, reduceIte, Xm, Nat.reduceLeDiff, g7, g8, hwi, hwa, hwb]
  refine Za (fun x => ∃ w, (∀ n, NaU ⟨x.st.sto, n⟩ [w] = some [.fsl m.length (Nab m)]) ∧ x.env.get 10 = PV.i .i64 ((k + (p.1 + 4) : Nat) : Int) ∧ x.env.get 11 = w ∧ x.env.get 9 = PV.i .i64 0) ?_ ?_
  ·simp only [↓Z0, ↓Xp, ↓Xt, Xq, Xc, Nac, Naa, Nat.reduceAdd, Nat.reduceMul, Nat.reduceLT, Nat.reduceEqDiff, reduceIte, Xm, Nat.reduceLeDiff, g0, g8, hmid]
   rw [Nas (NaA rfl) gU (NdF m 0)]
   obtain ⟨w, st', hr, hd⟩ := Ne0 ⟨st1.sto, st1.cnt + 128⟩ (st1.cnt + 80) m 0
   rw [hr]
   simp only [↓Z0, ↓Xp, ↓Xt, Xq, Xc, Nac, Naa, Nat.reduceAdd, Nat.reduceMul, Nat.reduceLT, Nat.reduceEqDiff, reduceIte, Xm, Nat.reduceLeDiff]
   exact ⟨w, hd, rfl⟩
  rintro ⟨env, st1⟩ ⟨w, hd, g10, g11, g9⟩
  simp only at hd g10 g11 g9
  refine Za (fun x => ∃ w, (∀ n, NaU ⟨x.st.sto, n⟩ [w] = some [.fsl m.length (Nab m)]) ∧ x.env.get 10 = PV.i .i64 ((k + (p.1 + 4) : Nat) : Int) ∧ x.env.get 11 = w) ?_ ?_
  ·simp only [↓Z0, ↓Xp, ↓Xt, Xq, Xc, Nac, Naa, Nat.reduceAdd, Nat.reduceMul, Nat.reduceLT, Nat.reduceEqDiff, reduceIte, Xm, Nat.reduceLeDiff, g9, e0, g10, g11]
   exact ⟨w, hd, rfl⟩
  clear g9 g10 g11 hd
  rintro ⟨env, st1⟩ ⟨w, hd, g10, g11⟩
  simp only at hd g10 g11
  have gE : Nag cfg (NaB cfg fuel) 58 [.fsl m.length (Nab m)] = some (Nfk m) := by
   rw [Nad hx3]
   unfold Nfe
   simp only [NbD]
   rw [if_pos hml]
  unfold Nfk at gE
  cases hE : NcE m with
  | none =>
    rw [hE] at gE
    simp only at gE
    have c3 : ∀ (n key : Nat), Naf (Nag cfg (NaB cfg fuel) 58) false ⟨st1.sto, n⟩ key [w] = some (.tup [.nsl, .b false], ⟨st1.sto, n⟩) := fun n key => Nas (hd n) gE rfl
    simp only [↓Z0, ↓Xp, ↓Xt, Xq, Xc, Nac, Naa, Nat.reduceAdd, Nat.reduceMul, Nat.reduceLT, Nat.reduceEqDiff, reduceIte, Xm, Nat.reduceLeDiff, g10, g11, c3, unP]
    refine ⟨nofun, _, rfl, ?_⟩
    simp only [Naz, ↓Z0, ↓Xp, ↓Xt, Xq, Xc, Nac, Naa, Nat.reduceAdd, Nat.reduceMul, Nat.reduceLT, Nat.reduceEqDiff, reduceIte]
    exact Nal rfl
  | some x =>
    obtain ⟨L, b⟩ := x
    rw [hE] at gE
    simp only at gE
    have c3 : ∀ (n key : Nat), Naf (Nag cfg (NaB cfg fuel) 58) false ⟨st1.sto, n⟩ key [w] = some (.tup [.rsl key 5 0 L.length, .b b], (⟨st1.sto, n⟩ : St).put key (some (.cells (Nay L) false))) := fun n key => Nas (hd n) gE (NgJ L b)
    cases b with
    | false =>
      simp only [↓Z0, ↓Xp, ↓Xt, Xq, Xc, Nac, Naa, Nat.reduceAdd, Nat.reduceMul, Nat.reduceLT, Nat.reduceEqDiff, reduceIte, Xm, Nat.reduceLeDiff, g10, g11, c3, unP]
      refine ⟨nofun, _, rfl, ?_⟩
      simp only [Naz, ↓Z0, ↓Xp, ↓Xt, Xq, Xc, Nac, Naa, Nat.reduceAdd, Nat.reduceMul, Nat.reduceLT, Nat.reduceEqDiff, reduceIte]
      exact Nal rfl
    | true =>
      simp only [↓Z0, ↓Xp, ↓Xt, Xq, Xc, Nac, Naa, Nat.reduceAdd, Nat.reduceMul, Nat.reduceLT, Nat.reduceEqDiff, reduceIte, Xm, Nat.reduceLeDiff, g10, g11, c3, unP]
      refine ⟨nofun, _, rfl, ?_⟩
      simp only [Naz, ↓Z0, ↓Xp, ↓Xt, Xq, Xc, Nac, Naa, Nat.reduceAdd, Nat.reduceMul, Nat.reduceLT, Nat.reduceEqDiff, reduceIte]
      have e5 : p.2.1 + (p.1 : Int) + 4 = ((k + (p.1 + 4) : Nat) : Int) := by omega
      rw [e5]
      exact NfU (b := 0) (St.get_putk _ _ _)
 ·rw [if_neg h4] at eU ⊢
  rw [eU] at gU
  have c2 : ∀ (st : St) (key : Nat), Naf (Nag cfg (NaB cfg fuel) 43) false st key [.fsl (p.1 + 4) (Nab B)] = some (.tup [.nsl, .i .i64 12], st) := fun st key => Nas (NaA rfl) gU rfl
  have e12 : ((12 : Int) != Int.ofNat 0) = true := rfl
  simp only [Nae, ↓Z0, ↓Xp, ↓Xt, Xq, Xc, Nac, Naa, Nat.reduceAdd, Nat.reduceMul, Nat.reduceLT, Nat.reduceEqDiff, reduceIte, Xm, Nat.reduceLeDiff, c1, e1, e2, hlen, hw4, hws, hwu, e3, hwi, hwa, hwb, hmid, c2, e12]
  refine ⟨nofun, _, rfl, ?_⟩
  simp only [Naz, ↓Z0, ↓Xp, ↓Xt, Xq, Xc, Nac, Naa, Nat.reduceAdd, Nat.reduceMul, Nat.reduceLT, Nat.reduceEqDiff, reduceIte]
  exact Nal rfl
def NjZ : List PV → Option PV
 | [v, .i .i64 a] => match inL v with
   | some l => if l.length ≤ 140737488355328 then some (NfD l a) else none
   | none => none
 | _ => none
end Go.Pe
set_option linter.unusedVariables false
set_option linter.unusedSimpArgs false
namespace Go.Pe
open Go Go.Am Go.RowKit

def NmH : PV → List Ev → Prop
 | .nsl, l => l = []
 | .fsl n cs, l => n = l.length ∧ cs = Nay l
 | _, _ => False
def Nsm (acc : List UInt8) (x e : Ev) : List UInt8 := Ntr acc e.O x.T x.J x.A x.B e.T e.J e.A e.B
def Nne (acc : List UInt8) (x : Ev) : List Ev → List UInt8
 | [] => acc
 | e :: r => Nne (Nsm acc x e) e r
def Nht (l : List Ev) : List UInt8 := Nne (Nah l.length) .zero l
def Ncw (l : List Ev) : List UInt8 := Nah (Nht l).length ++ NaD (Nht l)
theorem NeF {v : PV} {l : List Ev} (h : NmH v l) : NfG v = some (.i .i64 l.length) := by
 cases v <;> simp only [NmH] at h
 ·rw [h]; rfl
 ·rw [← h.1]; rfl
theorem NdL {v : PV} {l : List Ev} (h : NmH v l) (hl : l ≠ []) : v = .fsl l.length (Nay l) := by
 cases v <;> simp only [NmH] at h
 ·exact absurd h hl
 ·rw [h.1, h.2]
theorem Nhx : ∀ (l : List Ev) (i : Nat), (Nay l).drop (i * 5) = Nay (l.drop i)
 | l, 0 => by simp
 | [], i + 1 => by simp [Nay]
 | e :: r, i + 1 => by
   have h : Nay (e :: r) = evC e ++ Nay r := rfl
   rw [h, List.drop_succ_cons, ← Nhx r i, Nat.add_mul, Nat.one_mul, Nat.add_comm, ← List.drop_drop]
   rfl
theorem NgZ {st : St} {l : List Ev} {i : Nat} (hi : i < l.length) : loadP st 5 (.fptr ((Nay l).drop (i * 5))) = some (evC (l[i]'hi)) := by
 show cut? ((Nay l).drop (i * 5)) 0 5 = _
 rw [Nhx, List.drop_eq_getElem_cons hi]
 have h : Nay (l[i] :: l.drop (i + 1)) = evC l[i] ++ Nay (l.drop (i + 1)) := rfl
 rw [h]
 unfold cut?
 rw [if_pos (by rw [List.length_append, NgF]; omega)]
 rfl
def Nhw : List PV → Option (List Ev)
 | [] => some []
 | .i .i64 t :: .i .u8 o :: .i .i64 j :: .i .i64 a :: .i .i64 b :: r => if 0 ≤ o ∧ o < 256 then (Nhw r).map (⟨t, UInt8.ofNat o.toNat, j, a, b⟩ :: ·) else none
 | _ => none
theorem Ngc : ∀ l : List Ev, Nhw (Nay l) = some l
 | [] => rfl
 | e :: r => by
   have h : Nay (e :: r) = evC e ++ Nay r := rfl
   have ho := e.O.toNat_lt
   rw [h]
   unfold evC
   simp only [List.cons_append, List.nil_append]
   unfold Nhw
   rw [if_pos ⟨by omega, by omega⟩, Ngc r]
   simp
theorem Nj9 (n : Nat) : ∀ {cs : List PV} {l : List Ev}, cs.length ≤ n → Nhw cs = some l → cs = Nay l := by
 induction n with
 | zero =>
   intro cs l hn h
   have : cs = [] := List.length_eq_zero_iff.1 (by omega)
   subst this
   simp only [Nhw, Sj] at h
   rw [← h]; rfl
 | succ n ih =>
   intro cs l hn h
   unfold Nhw at h
   split at h
   ·simp only [Sj] at h
    rw [← h]; rfl
   ·rename_i t o j a b r
    split at h
    ·rename_i ho
     cases hr : Nhw r with
     | none => rw [hr] at h; simp at h
     | some m =>
       rw [hr] at h
       simp only [Option.map_some, Sj] at h
       have := ih (by simp only [List.length_cons] at hn; omega) hr
       rw [← h, this]
       have h2 : (((UInt8.ofNat o.toNat).toNat : Nat) : Int) = o := by
        rw [UInt8.toNat_ofNat']; omega
       show _ = evC _ ++ Nay m
       unfold evC
       simp only [h2, List.cons_append, List.nil_append]
    ·simp at h
   ·simp at h
end Go.Pe
