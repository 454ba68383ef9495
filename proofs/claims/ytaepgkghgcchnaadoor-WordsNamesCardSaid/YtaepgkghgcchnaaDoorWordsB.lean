/-
 Words: what is passed over, by the interpreter of plain data. No condition.
-/
import Derived.Test.YtaepgkghgcchnaaDoorWordsM
import Derived.Test.YtaepgkghgcchnaaDoorPeTbl
set_option linter.unusedVariables false
set_option linter.unusedSimpArgs false
namespace Go.Pe
open Go

theorem NiN : ∀ i, i < 256 → cut? clsCells i 1 = some [.i .u8 (cls (UInt8.ofNat i))] := by
 intro i hi
 unfold cut? clsCells
 rw [if_pos (by simp; omega)]
 apply congrArg
 apply List.ext_getElem?
 intro j
 cases j with
 | zero => simp [List.getElem?_take, List.getElem?_drop, List.getElem?_map, List.getElem?_range, hi]
 | succ j => simp [List.getElem?_take]
theorem NcG {st : St} {k : Nat} {fz : Bool} (hk : st.get k = some (.cells clsCells fz)) (c : UInt8) : Na5 st 1 (.ptr k (0 + c.toNat * 1)) = some [.i .u8 (cls c)] := by
 unfold Na5
 simp only [hk]
 have h := NiN c.toNat c.toNat_lt
 simp only [UInt8.ofNat_toNat] at h
 simpa using h

theorem NfJ {cfg : Cfg} (hf : cfg.fn 21 = some m21) (hx : cfg.ext 36 = some gIndexByte) {fuel : Nat} {text : List UInt8} {at0 : Nat} (hat : at0 ≤ text.length) (hlen : text.length ≤ 16384) (hfu : text.length < fuel) {st : St} {k : Nat} {fz : Bool} (hk : st.get k = some (.cells clsCells fz)) :
 ∃ r st', Na2 cfg (fuel + 1) 21 [.ptr k 0, .s text, .i .i64 at0] st = some (r, st') ∧ (r = .i .i64 ((at0 + Nbe false (text.drop at0) : Nat) : Int) ∧ st'.sto = st.sto ∧ st.cnt ≤ st'.cnt) := by
 refine Nbj hf ?_
 unfold m21
 simp only [Nap, ↓Z0, ↓Xp, ↓Xt, Xq, Xc, Naf, Naa, Nat.reduceAdd, Nat.reduceMul, Nat.reduceLT, Nat.reduceEqDiff, reduceIte]
 refine Z9 (k := text.length - at0) (fun d x => ∃ i : Nat, i ≤ text.length ∧ d = text.length - i ∧ i + Nbe false (text.drop i) = at0 + Nbe false (text.drop at0) ∧ x.env.get 0 = .ptr k 0 ∧ x.env.get 1 = .s text ∧ x.env.get 2 = .i .i64 i ∧ x.st.sto = st.sto ∧ st.cnt ≤ x.st.cnt) ?_ ⟨at0, hat, rfl, rfl, ?_⟩ (by omega)
 ·rintro d ⟨env, st1⟩ ⟨i, hi, rfl, hp, h0, h1, h2, hs, hc⟩
  simp only at h0 h1 h2 hs hc
  simp only [↓Z0, ↓Xp, ↓Xt, Xq, Xc, Naf, Naa, Nat.reduceAdd, Nat.reduceMul, Nat.reduceLT, Nat.reduceEqDiff, reduceIte, h0, h1, h2]
  have hk1 : ∀ c, St.get ⟨st1.sto, c⟩ k = some (.cells clsCells fz) := by
   intro c
   show Trie.get (Nat.add k 1) st1.sto k = _
   rw [hs]; exact hk
  have hld := fun (c : Nat) (b : UInt8) => NcG (hk1 c) b
  refine ⟨fun hlt => ?_, fun hlt => ?_⟩
  ·have hlt' : i < text.length := by omega
   have hd := Nbi hlt'
   rw [hd] at hp
   refine ⟨by omega, hlt', by have := (text.getD i 0).toNat_lt; omega, ?_⟩
   have hb1 := (text.getD i 0).toNat_lt
   generalize text.getD i 0 = c at *
   simp only [↓Z0, ↓Xp, ↓Xt, Xq, Xc, Naf, Naa, Nat.reduceAdd, Nat.reduceMul, Nat.reduceLT, Nat.reduceEqDiff, reduceIte, hld]
   by_cases hb : NbB c = true
   ·have hp' : 1 + Nbe false (text.drop (i + 1)) + i = at0 + Nbe false (text.drop at0) := by
     rw [← hp]; simp [Nbe, hb]; omega
    simp only [↓Z0, ↓Xp, ↓Xt, Xq, Xc, Naf, Naa, Nat.reduceAdd, Nat.reduceMul, Nat.reduceLT, Nat.reduceEqDiff, reduceIte, Nka hb]
    simp only [show (((1 : Nat) : Int) == Int.ofNat 1) = true from rfl, ↓Z0, ↓Xp, ↓Xt, Xq, Xc, Naf, Naa, Nat.reduceAdd, Nat.reduceMul, Nat.reduceLT, Nat.reduceEqDiff, reduceIte]
    refine ⟨text.length - (i + 1), by omega, i + 1, by omega, rfl, by omega, ?_, hs, by omega⟩
    rw [NaM _ ⟨by show _ ≤ (i : Int) + 1; omega, by show (i : Int) + 1 < _; omega⟩]
    rfl
   ·by_cases hr : c = 35
    ·simp only [↓Z0, ↓Xp, ↓Xt, Xq, Xc, Naf, Naa, Nat.reduceAdd, Nat.reduceMul, Nat.reduceLT, Nat.reduceEqDiff, reduceIte, Nkb hr]
     simp only [show (((2 : Nat) : Int) == Int.ofNat 1) = false from rfl, show (((2 : Nat) : Int) == Int.ofNat 2) = true from rfl, ↓Z0, ↓Xp, ↓Xt, Xq, Xc, Naf, Naa, Nat.reduceAdd, Nat.reduceMul, Nat.reduceLT, Nat.reduceEqDiff, reduceIte, h1, h2]
     rw [NbJ ⟨by omega, by omega⟩]
     simp only [↓Z0, ↓Xp, ↓Xt, Xq, Xc, Naf, Naa, Nat.reduceAdd, Nat.reduceMul, Nat.reduceLT, Nat.reduceEqDiff, reduceIte]
     have hsub : List.take (text.length - i) (text.drop i) = text.drop i := List.take_of_length_le (by simp)
     rw [hsub, Nan (r := .i .i64 (NdN 10 (text.drop i) 0)) rfl (by rw [Nav hx]; rfl) rfl]
     simp only [↓Z0, ↓Xp, ↓Xt, Xq, Xc, Naf, Naa, Nat.reduceAdd, Nat.reduceMul, Nat.reduceLT, Nat.reduceEqDiff, reduceIte]
     have hpf : Nbe false (c :: text.drop (i + 1)) = 1 + Nbe true (text.drop (i + 1)) := by
      simp only [Nbe]
      rw [if_neg hb, if_pos hr]
     have hc10 : c ≠ 10 := by rw [hr]; decide
     have hpt : Nbe true (text.drop i) = 1 + Nbe true (text.drop (i + 1)) := by
      rw [hd]; simp only [Nbe, hc10, if_false]
     rcases NdI 10 (text.drop i) 0 with hn | hn
     ·have h1 := Neb _ _ hn
      simp only [List.length_drop] at h1
      rw [hn]
      simp only [show ((-1 : Int) < Int.ofNat 0) from by decide, ↓Z0, ↓Xp, ↓Xt, Xq, Xc, Naf, Naa, Nat.reduceAdd, Nat.reduceMul, Nat.reduceLT, Nat.reduceEqDiff, reduceIte]
      refine ⟨nofun, _, rfl, ?_, hs, by omega⟩
      simp only [Ndv, ↓Z0, ↓Xp, ↓Xt, Xq, Xc, Naf, Naa, Nat.reduceAdd, Nat.reduceMul, Nat.reduceLT, Nat.reduceEqDiff, reduceIte]
      congr 1
      rw [hpf] at hp
      omega
     ·obtain ⟨p, hpp⟩ : ∃ p : Nat, NdN 10 (text.drop i) 0 = p := ⟨(NdN 10 (text.drop i) 0).toNat, by omega⟩
      obtain ⟨h1, h2⟩ := Nec (text.drop i) 0 p (by rw [hpp]; simp)
      simp only [List.length_drop, List.drop_drop] at h1 h2
      rw [hpp]
      have hneg : ¬ ((p : Int) < Int.ofNat 0) := by
       show ¬ ((p : Int) < 0); omega
      simp only [hneg, ↓Z0, ↓Xp, ↓Xt, Xq, Xc, Naf, Naa, Nat.reduceAdd, Nat.reduceMul, Nat.reduceLT, Nat.reduceEqDiff, reduceIte]
      have hp0 : p ≠ 0 := by
       intro h0
       subst h0
       rw [hd] at hpp
       unfold NdN at hpp
       rw [if_neg hc10] at hpp
       rcases NdI 10 (text.drop (i + 1)) (0 + 1) with h | h <;> omega
      refine ⟨text.length - (i + p), by omega, i + p, by omega, rfl, by omega, ?_, hs, by omega⟩
      rw [NaM _ ⟨by omega, by omega⟩]
      simp
    ·obtain ⟨n1, n2⟩ := Nj9 hb hr
     have hp' : i = at0 + Nbe false (text.drop at0) := by
      rw [← hp]; simp [Nbe, hb, hr]
     have e1 : (((cls c : Nat) : Int) == Int.ofNat 1) = false := by
      simp only [beq_eq_false_iff_ne, ne_eq]; show ¬ ((cls c : Nat) : Int) = ((1 : Nat) : Int); omega
     have e2 : (((cls c : Nat) : Int) == Int.ofNat 2) = false := by
      simp only [beq_eq_false_iff_ne, ne_eq]; show ¬ ((cls c : Nat) : Int) = ((2 : Nat) : Int); omega
     simp only [e1, e2, ↓Z0, ↓Xp, ↓Xt, Xq, Xc, Naf, Naa, Nat.reduceAdd, Nat.reduceMul, Nat.reduceLT, Nat.reduceEqDiff, reduceIte, h1, h2]
     refine ⟨nofun, _, rfl, ?_, hs, by omega⟩
     simp only [Ndv, ↓Z0, ↓Xp, ↓Xt, Xq, Xc, Naf, Naa, Nat.reduceAdd, Nat.reduceMul, Nat.reduceLT, Nat.reduceEqDiff, reduceIte]
     congr 1
     omega
  ·have : i = text.length := by omega
   subst this
   refine ⟨nofun, _, rfl, ?_, hs, by omega⟩
   simp only [Ndv, ↓Z0, ↓Xp, ↓Xt, Xq, Xc, Naf, Naa, Nat.reduceAdd, Nat.reduceMul, Nat.reduceLT, Nat.reduceEqDiff, reduceIte]
   congr 1
   simp [Nbe] at hp
   omega
 ·simp [Env.get_put]
end Go.Pe
