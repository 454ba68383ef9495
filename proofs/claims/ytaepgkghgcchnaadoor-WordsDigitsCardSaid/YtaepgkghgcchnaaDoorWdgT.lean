/-
 strings.TrimLeft of noughts, by the interpreter of plain data. No condition.
-/
import Derived.Test.YtaepgkghgcchnaaDoorWdgA
import Derived.Test.YtaepgkghgcchnaaDoorWordsT
import Derived.Test.YtaepgkghgcchnaaDoorBldA
set_option linter.unusedVariables false
set_option linter.unusedSimpArgs false
set_option maxHeartbeats 4000000
set_option maxRecDepth 100000
namespace Go.Pe
open Go Go.Am Go.RowKit

theorem Nhg (c : UInt8) (m : List UInt8) : m = [] ∨ (∃ r, m = c :: r) ∨ ∃ x r, m = x :: r ∧ x ≠ c := by
 cases m with
 | nil => exact .inl rfl
 | cons x r =>
   by_cases h : x = c
   ·exact .inr (.inl ⟨r, by rw [h]⟩)
   ·exact .inr (.inr ⟨x, r, rfl, h⟩)
theorem Njy {cfg : Cfg} (hf : cfg.fn 16 = some m16) {fuel : Nat} {l : List UInt8} (hfu : l.length < fuel) {st : St} :
 ∃ r st', Na5 cfg (fuel + 1) 16 [.s l, .i .u8 48] st = some (r, st') ∧ r = .s (Nb4 48 l) := by
 refine Na8 hf ?_
 unfold m16
 simp only [Nar]
 (try rw [Z0])
 (try simp (maxSteps := 2000000) (disch := first | omega | rfl | assumption) only [↓Xp, ↓Xt, Xq, Xc, Naf, Naa, Nat.reduceAdd, Nat.reduceMul, Nat.reduceLT, Nat.reduceEqDiff, reduceIte, Xa, Xn, unP, Nag, Nah, Nai, Xm, Nat.reduceLeDiff, List.nil_append, List.cons_append])
 refine Za (fun x => x.env.get 0 = .s (Nb4 48 l)) ?_ ?_
 ·rw [Z2]
  refine Z9 (k := l.length) (fun d x => ∃ m, d = m.length ∧ Nb4 48 m = Nb4 48 l ∧ x.env.get 0 = .s m ∧ x.env.get 1 = .i .u8 48) ?_ ⟨l, rfl, rfl, by simp [Env.get_put], by simp [Env.get_put]⟩ (by omega)
  rintro d ⟨env, st1⟩ ⟨m, rfl, hm, g0, g1⟩
  simp only at g0 g1
  have e0 : Int.toNat ((0 : Nat) : Int) = 0 := rfl
  have z0 : ((0 : Int) ≤ ((0 : Nat) : Int)) = True := by simp
  have hb1 : ∀ n : Nat, NaB (some (.i .i64 ((1 : Nat) : Int))) 0 (n + 1) = some 1 := fun n => by
   simp only [NaB]
   rw [if_pos (by omega)]; rfl
  rcases Nhg 48 m with rfl | ⟨r, rfl⟩ | ⟨x, r, rfl, hx⟩
  ·have h0 : ((((([] : List UInt8).length : Nat) : Int) > ((0 : Nat) : Int))) = False := by simp
   simp (maxSteps := 2000000) (disch := first | omega | rfl | assumption) only [↓Z0, ↓Xp, ↓Xt, Xq, Xc, Naf, Naa, Nat.reduceAdd, Nat.reduceMul, Nat.reduceLT, Nat.reduceEqDiff, reduceIte, Xm, Nat.reduceLeDiff, Xa, Xn, unP, Nag, Nah, Nai, g0, g1, h0]
   rw [← hm]; rfl
  ·have h0 : ((((48 :: r : List UInt8).length : Nat) : Int) > ((0 : Nat) : Int)) = True := by simp
   have he : (((UInt8.toNat 48 : Nat) : Int) == 48) = true := rfl
   simp (maxSteps := 2000000) (disch := first | omega | rfl | assumption) only [↓Z0, ↓Xp, ↓Xt, Xq, Xc, Naf, Naa, Nat.reduceAdd, Nat.reduceMul, Nat.reduceLT, Nat.reduceEqDiff, reduceIte, Xm, Nat.reduceLeDiff, Xa, Xn, unP, Nag, Nah, Nai, g0, g1, h0, e0, z0, he, hb1]
   refine ⟨r.length, by omega, r, rfl, ?_, ?_⟩
   ·rw [← hm]; rfl
   ·simp
  ·have h0 : ((((x :: r : List UInt8).length : Nat) : Int) > ((0 : Nat) : Int)) = True := by simp
   have he : (((x.toNat : Nat) : Int) == 48) = false := by
    simp only [beq_eq_false_iff_ne, ne_eq]
    intro h
    apply hx
    apply UInt8.toNat_inj.1
    show x.toNat = 48
    omega
   simp (maxSteps := 2000000) (disch := first | omega | rfl | assumption) only [↓Z0, ↓Xp, ↓Xt, Xq, Xc, Naf, Naa, Nat.reduceAdd, Nat.reduceMul, Nat.reduceLT, Nat.reduceEqDiff, reduceIte, Xm, Nat.reduceLeDiff, Xa, Xn, unP, Nag, Nah, Nai, g0, g1, h0, e0, z0, he]
   rw [← hm]
   show _ = PV.s (if x = 48 then _ else _)
   rw [if_neg hx]
 ·rintro ⟨env, st1⟩ g0
  simp only at g0
  simp (maxSteps := 2000000) (disch := first | omega | rfl | assumption) only [↓Z0, ↓Xp, ↓Xt, Xq, Xc, Naf, Naa, Nat.reduceAdd, Nat.reduceMul, Nat.reduceLT, Nat.reduceEqDiff, reduceIte, Xm, Nat.reduceLeDiff, Xa, Xn, unP, Nag, Nah, Nai, g0]
  refine ⟨nofun, _, rfl, ?_⟩
  simp only [Nds, ↓Z0, ↓Xp, ↓Xt, Xq, Xc, Naf, Naa, Nat.reduceAdd, Nat.reduceMul, Nat.reduceLT, Nat.reduceEqDiff, reduceIte]
def gTrim : List PV → Option PV
 | [.s l, .s [48]] => if l.length ≤ 16384 then some (.s (Nb4 48 l)) else none
 | _ => none
theorem Nja : cfgI.ext 16 = none := by kernel_rfl
theorem Njb : cfgI.ext 8 = none := by kernel_rfl
theorem Nhf (args : List PV) (r : PV) (h : gTrim args = some r) : ∃ fuel, evP cfgI fuel 8 args = some r := by
 unfold gTrim at h
 split at h
 ·rename_i l
  split at h
  ·simp only [Sj] at h
   subst h
   refine ⟨l.length + 2 + 1, NfR Njb rfl ?_⟩
   have hcall : ∀ (st : St) (key : Nat), Nax (Nau cfgI (Na5 cfgI (l.length + 2)) 16) false st key [.s l, .i .u8 48] = some (.s (Nb4 48 l), st) := by
    intro st key
    refine Nan rfl ?_ rfl
    unfold Nau
    simp only [Nja]
    obtain ⟨r', st', h1, h2⟩ := Njy (cfg := cfgI) (by kernel_rfl) (fuel := l.length + 1) (l := l) (by omega) (st := { sto := .leaf, cnt := 1 })
    unfold NdR
    have h1' : Na5 cfgI (l.length + 2) 16 (Naw [.s l, .i .u8 48]).1 (Naw [.s l, .i .u8 48]).2 = some (r', st') := h1
    rw [h1', h2]
    rfl
   refine Na8 (by kernel_rfl : cfgI.fn 8 = some m8) ?_
   unfold m8
   simp only [Nar]
   have e48 : (PV.i .u8 ((UInt8.toNat 48 : Nat) : Int)) = .i .u8 48 := rfl
   have q1 : (([48] : List UInt8) == []) = false := rfl
   have q2 : ((((([48] : List UInt8).length : Nat) : Int)) == ((1 : Nat) : Int)) = true := rfl
   have e0 : Int.toNat ((0 : Nat) : Int) = 0 := rfl
   have z0 : ((0 : Int) ≤ ((0 : Nat) : Int)) = True := by simp
   have q3 : ((48 : Int) < ((128 : Nat) : Int)) = True := by simp
   by_cases hl0 : l = []
   ·have hq : (l == []) = true := by rw [hl0]; rfl
    have ht : Nb4 48 l = l := by rw [hl0]; rfl
    (try rw [Z0])
    (try simp (maxSteps := 2000000) (disch := first | omega | rfl | assumption) only [↓Xp, ↓Xt, Xq, Xc, Naf, Naa, Nat.reduceAdd, Nat.reduceMul, Nat.reduceLT, Nat.reduceEqDiff, reduceIte, Xa, Xn, unP, Nag, Nah, Nai, Xm, Nat.reduceLeDiff, List.nil_append, List.cons_append, hq])
    (try rw [Z0])
    (try simp (maxSteps := 2000000) (disch := first | omega | rfl | assumption) only [↓Xp, ↓Xt, Xq, Xc, Naf, Naa, Nat.reduceAdd, Nat.reduceMul, Nat.reduceLT, Nat.reduceEqDiff, reduceIte, Xa, Xn, unP, Nag, Nah, Nai, Xm, Nat.reduceLeDiff, List.nil_append, List.cons_append, hq])
    (try rw [Z0])
    (try simp (maxSteps := 2000000) (disch := first | omega | rfl | assumption) only [↓Xp, ↓Xt, Xq, Xc, Naf, Naa, Nat.reduceAdd, Nat.reduceMul, Nat.reduceLT, Nat.reduceEqDiff, reduceIte, Xa, Xn, unP, Nag, Nah, Nai, Xm, Nat.reduceLeDiff, List.nil_append, List.cons_append, hq])
    (try rw [Z0])
    (try simp (maxSteps := 2000000) (disch := first | omega | rfl | assumption) only [↓Xp, ↓Xt, Xq, Xc, Naf, Naa, Nat.reduceAdd, Nat.reduceMul, Nat.reduceLT, Nat.reduceEqDiff, reduceIte, Xa, Xn, unP, Nag, Nah, Nai, Xm, Nat.reduceLeDiff, List.nil_append, List.cons_append, hq])
    (try rw [Z0])
    (try simp (maxSteps := 2000000) (disch := first | omega | rfl | assumption) only [↓Xp, ↓Xt, Xq, Xc, Naf, Naa, Nat.reduceAdd, Nat.reduceMul, Nat.reduceLT, Nat.reduceEqDiff, reduceIte, Xa, Xn, unP, Nag, Nah, Nai, Xm, Nat.reduceLeDiff, List.nil_append, List.cons_append, hq])
    exact ⟨nofun, _, rfl, by rw [ht]; rfl⟩
   ·have hq : (l == []) = false := by cases l <;> simp_all
    (try rw [Z0])
    (try simp (maxSteps := 2000000) (disch := first | omega | rfl | assumption) only [↓Xp, ↓Xt, Xq, Xc, Naf, Naa, Nat.reduceAdd, Nat.reduceMul, Nat.reduceLT, Nat.reduceEqDiff, reduceIte, Xa, Xn, unP, Nag, Nah, Nai, Xm, Nat.reduceLeDiff, List.nil_append, List.cons_append, hq, q1, q2, q3, e0, z0, e48, hcall])
    (try rw [Z0])
    (try simp (maxSteps := 2000000) (disch := first | omega | rfl | assumption) only [↓Xp, ↓Xt, Xq, Xc, Naf, Naa, Nat.reduceAdd, Nat.reduceMul, Nat.reduceLT, Nat.reduceEqDiff, reduceIte, Xa, Xn, unP, Nag, Nah, Nai, Xm, Nat.reduceLeDiff, List.nil_append, List.cons_append, hq, q1, q2, q3, e0, z0, e48, hcall])
    (try rw [Z0])
    (try simp (maxSteps := 2000000) (disch := first | omega | rfl | assumption) only [↓Xp, ↓Xt, Xq, Xc, Naf, Naa, Nat.reduceAdd, Nat.reduceMul, Nat.reduceLT, Nat.reduceEqDiff, reduceIte, Xa, Xn, unP, Nag, Nah, Nai, Xm, Nat.reduceLeDiff, List.nil_append, List.cons_append, hq, q1, q2, q3, e0, z0, e48, hcall])
    (try rw [Z0])
    (try simp (maxSteps := 2000000) (disch := first | omega | rfl | assumption) only [↓Xp, ↓Xt, Xq, Xc, Naf, Naa, Nat.reduceAdd, Nat.reduceMul, Nat.reduceLT, Nat.reduceEqDiff, reduceIte, Xa, Xn, unP, Nag, Nah, Nai, Xm, Nat.reduceLeDiff, List.nil_append, List.cons_append, hq, q1, q2, q3, e0, z0, e48, hcall])
    (try rw [Z0])
    (try simp (maxSteps := 2000000) (disch := first | omega | rfl | assumption) only [↓Xp, ↓Xt, Xq, Xc, Naf, Naa, Nat.reduceAdd, Nat.reduceMul, Nat.reduceLT, Nat.reduceEqDiff, reduceIte, Xa, Xn, unP, Nag, Nah, Nai, Xm, Nat.reduceLeDiff, List.nil_append, List.cons_append, hq, q1, q2, q3, e0, z0, e48, hcall])
    (try rw [Z0])
    (try simp (maxSteps := 2000000) (disch := first | omega | rfl | assumption) only [↓Xp, ↓Xt, Xq, Xc, Naf, Naa, Nat.reduceAdd, Nat.reduceMul, Nat.reduceLT, Nat.reduceEqDiff, reduceIte, Xa, Xn, unP, Nag, Nah, Nai, Xm, Nat.reduceLeDiff, List.nil_append, List.cons_append, hq, q1, q2, q3, e0, z0, e48, hcall])
    exact ⟨nofun, _, rfl, rfl⟩
  ·simp at h
 ·simp at h
end Go.Pe
