/-
 Builders of texts, by contract. No condition.
-/
import Derived.Test.YtaepgkghgcchnaaDoorPeTbl
import Derived.Test.YtaepgkghgcchnaaDoorPe9
set_option linter.unusedVariables false
set_option linter.unusedSimpArgs false
set_option maxHeartbeats 8000000
namespace Go.Pe
open Go Go.Am Go.RowKit

def BldU (k : Nat) (l : List UInt8) (st : St) : Prop :=
 (st.get k = some (.cells [.ptr k 0, .nsl] false) ∧ l = []) ∨ ∃ kb, st.get k = some (.cells [.ptr k 0, .rsl kb 1 0 l.length] false) ∧ kb ≠ k ∧ kb < st.cnt ∧ 0 < l.length ∧ st.get kb = some (.bytes 5 l)
def Bld (k : Nat) (l : List UInt8) (st : St) : Prop := (st.get k = some (.bld 25) ∧ l = []) ∨ BldU k l st
structure BKeep (k : Nat) (st st' : St) : Prop where
 g : ∀ j, j ≠ k → j < st.cnt → (∀ T l, st.get j ≠ some (.bytes T l)) → st'.get j = st.get j
 c : st.cnt ≤ st'.cnt
theorem BKeep.trans {k : Nat} {a b c : St} (h1 : BKeep k a b) (h2 : BKeep k b c) : BKeep k a c :=
 ⟨fun j hj hl hn => by
  have e := h1.g j hj hl hn
  rw [h2.g j hj (by have := h1.c; omega) (by rw [e]; exact hn), e], Nat.le_trans h1.c h2.c⟩
theorem BldU.cnt {k : Nat} {l : List UInt8} {st : St} (h : BldU k l st) {n : Nat} (hn : st.cnt ≤ n) : BldU k l ⟨st.sto, n⟩ := by
 rcases h with h | ⟨kb, h1, h2, h3, h4, h5⟩
 ·exact .inl h
 ·exact .inr ⟨kb, h1, h2, by simp only; omega, h4, h5⟩
theorem Bld.cnt {k : Nat} {l : List UInt8} {st : St} (h : Bld k l st) {n : Nat} (hn : st.cnt ≤ n) : Bld k l ⟨st.sto, n⟩ := by
 rcases h with h | h
 ·exact .inl h
 ·exact .inr (h.cnt hn)
theorem Nj8 {cfg : Cfg} (hf : cfg.fn 15 = some m15) {fuel k : Nat} {l : List UInt8} {st : St} (h : Bld k l st) (hlt : k < st.cnt) :
 ∃ r' st', Na2 cfg (fuel + 1) 15 [.ptr k 0] st = some (r', st') ∧ (BldU k l st' ∧ BKeep k st st') := by
 refine Nbj hf ?_
 unfold m15
 simp only [Nap]
 have q1 : NhN 1 false .nptr .nptr = some (.b true) := rfl
 have q2 : ∀ k o, NhN 1 false (.ptr k o) .nptr = some (.b false) := fun _ _ => rfl
 rcases h with ⟨hk, rfl⟩ | ⟨hk, rfl⟩ | ⟨kb, hk, h2, h3, h4, h5⟩
 ·have hk' : ∀ n', St.get ⟨st.sto, n'⟩ k = some (.bld 25) := fun _ => hk
  (try rw [Z0])
  (try simp (maxSteps := 2000000) (disch := first | omega | rfl | assumption) only [↓Xp, ↓Xt, Xq, Xc, Naf, Naa, Nat.reduceAdd, Nat.reduceMul, Nat.reduceLT, Nat.reduceEqDiff, reduceIte, Xa, Xn, unP, Nag, Nah, Nai, Xm, Nat.reduceLeDiff, List.nil_append, List.cons_append, hk', NbC, Ndr, q1, List.mem_cons, List.not_mem_nil, or_false, or_true, Nat.reduceEqDiff])
  (try rw [Z0])
  (try simp (maxSteps := 2000000) (disch := first | omega | rfl | assumption) only [↓Xp, ↓Xt, Xq, Xc, Naf, Naa, Nat.reduceAdd, Nat.reduceMul, Nat.reduceLT, Nat.reduceEqDiff, reduceIte, Xa, Xn, unP, Nag, Nah, Nai, Xm, Nat.reduceLeDiff, List.nil_append, List.cons_append, hk', NbC, Ndr, q1, List.mem_cons, List.not_mem_nil, or_false, or_true, Nat.reduceEqDiff])
  refine ⟨nofun, [], rfl, .inl ⟨St.get_putk _ _ _, rfl⟩, fun j hj hl hn => ?_, by simp only [Nj2]; omega⟩
  rw [St.get_put_ne (Ne.symm hj)]; rfl
 ·have hk' : ∀ n', St.get ⟨st.sto, n'⟩ k = some (.cells [.ptr k 0, .nsl] false) := fun _ => hk
  (try rw [Z0])
  (try simp (maxSteps := 2000000) (disch := first | omega | rfl | assumption) only [↓Xp, ↓Xt, Xq, Xc, Naf, Naa, Nat.reduceAdd, Nat.reduceMul, Nat.reduceLT, Nat.reduceEqDiff, reduceIte, Xa, Xn, unP, Nag, Nah, Nai, Xm, Nat.reduceLeDiff, List.nil_append, List.cons_append, hk', Ndd, q2, and_self])
  (try rw [Z0])
  (try simp (maxSteps := 2000000) (disch := first | omega | rfl | assumption) only [↓Xp, ↓Xt, Xq, Xc, Naf, Naa, Nat.reduceAdd, Nat.reduceMul, Nat.reduceLT, Nat.reduceEqDiff, reduceIte, Xa, Xn, unP, Nag, Nah, Nai, Xm, Nat.reduceLeDiff, List.nil_append, List.cons_append, hk', Ndd, q2, and_self])
  (try rw [Z0])
  (try simp (maxSteps := 2000000) (disch := first | omega | rfl | assumption) only [↓Xp, ↓Xt, Xq, Xc, Naf, Naa, Nat.reduceAdd, Nat.reduceMul, Nat.reduceLT, Nat.reduceEqDiff, reduceIte, Xa, Xn, unP, Nag, Nah, Nai, Xm, Nat.reduceLeDiff, List.nil_append, List.cons_append, hk', Ndd, q2, and_self])
  exact ⟨nofun, [], rfl, .inl ⟨hk, rfl⟩, fun j hj hl hn => rfl, by simp only; omega⟩
 ·have hk' : ∀ n', St.get ⟨st.sto, n'⟩ k = some (.cells [.ptr k 0, .rsl kb 1 0 l.length] false) := fun _ => hk
  (try rw [Z0])
  (try simp (maxSteps := 2000000) (disch := first | omega | rfl | assumption) only [↓Xp, ↓Xt, Xq, Xc, Naf, Naa, Nat.reduceAdd, Nat.reduceMul, Nat.reduceLT, Nat.reduceEqDiff, reduceIte, Xa, Xn, unP, Nag, Nah, Nai, Xm, Nat.reduceLeDiff, List.nil_append, List.cons_append, hk', Ndd, q2, and_self])
  (try rw [Z0])
  (try simp (maxSteps := 2000000) (disch := first | omega | rfl | assumption) only [↓Xp, ↓Xt, Xq, Xc, Naf, Naa, Nat.reduceAdd, Nat.reduceMul, Nat.reduceLT, Nat.reduceEqDiff, reduceIte, Xa, Xn, unP, Nag, Nah, Nai, Xm, Nat.reduceLeDiff, List.nil_append, List.cons_append, hk', Ndd, q2, and_self])
  (try rw [Z0])
  (try simp (maxSteps := 2000000) (disch := first | omega | rfl | assumption) only [↓Xp, ↓Xt, Xq, Xc, Naf, Naa, Nat.reduceAdd, Nat.reduceMul, Nat.reduceLT, Nat.reduceEqDiff, reduceIte, Xa, Xn, unP, Nag, Nah, Nai, Xm, Nat.reduceLeDiff, List.nil_append, List.cons_append, hk', Ndd, q2, and_self])
  exact ⟨nofun, [], rfl, .inr ⟨kb, hk, h2, by simp only; omega, h4, h5⟩, fun j hj hl hn => rfl, by simp only; omega⟩
theorem NhE {st : St} {key T : Nat} {l : List UInt8} (h : 0 < l.length) (hl : l.length ≤ maxBytes) : Nbo st key T l .nsl = some (.rsl key 1 0 l.length, st.put key (some (.bytes T l))) := by
 unfold Nbo
 rw [if_neg (by omega), if_pos hl]
theorem NhF {st : St} {key T kb : Nat} {m l : List UInt8} (hg : st.get kb = some (.bytes T m)) (hl : m.length + l.length ≤ maxBytes) : Nbo st key T l (.rsl kb 1 0 m.length) = some (.rsl key 1 0 (m.length + l.length), (st.put kb none).put key (some (.bytes T (m ++ l)))) := by
 simp only [Nbo, hg]
 rw [if_pos ⟨trivial, trivial, trivial, trivial, hl⟩]
theorem Nbf (st : St) (key : Nat) (v : PV) (z : Bool) : cellsOf (st.put key (some (.cells [v] z))) 1 (.rsl key 1 0 1) = some (1, [v]) := by
 simp [cellsOf, St.get_putk, cut?]
theorem NkI {cfg : Cfg} (hf : cfg.fn 15 = some m15) (hx : cfg.ext 15 = none) (hf2 : cfg.fn 5 = some m5) {fuel k : Nat} {l : List UInt8} {c : UInt8} {st : St} (h : Bld k l st) (hlt : k < st.cnt) (hl : l.length + 1 ≤ maxBytes) :
 ∃ r' st', Na2 cfg (fuel + 2) 5 [.ptr k 0, .i .u8 c.toNat] st = some (r', st') ∧ (BldU k (l ++ [c]) st' ∧ BKeep k st st') := by
 refine Nbj hf2 ?_
 unfold m5
 simp only [Nap]
 (try rw [Z0])
 (try simp (maxSteps := 2000000) (disch := first | omega | rfl | assumption) only [↓Xp, ↓Xt, Xq, Xc, Naf, Naa, Nat.reduceAdd, Nat.reduceMul, Nat.reduceLT, Nat.reduceEqDiff, reduceIte, Xa, Xn, unP, Nag, Nah, Nai, Xm, Nat.reduceLeDiff, List.nil_append, List.cons_append, hx])
 (try rw [Z0])
 (try simp (maxSteps := 2000000) (disch := first | omega | rfl | assumption) only [↓Xp, ↓Xt, Xq, Xc, Naf, Naa, Nat.reduceAdd, Nat.reduceMul, Nat.reduceLT, Nat.reduceEqDiff, reduceIte, Xa, Xn, unP, Nag, Nah, Nai, Xm, Nat.reduceLeDiff, List.nil_append, List.cons_append, hx])
 refine NiF (Nj8 hf (h.cnt (by omega)) (by simp only; omega)) ?_
 rintro v ⟨sto1, cnt1⟩ ⟨hU, hK⟩
 have hc1 := hK.c
 simp only at hc1
 have hb : bytesOf? [.i .u8 (c.toNat : Int)] = some [c] := by
  have h0 : (0 : Int) ≤ (c.toNat : Int) ∧ (c.toNat : Int) < 256 := by have := c.toNat_lt; omega
  simp only [bytesOf?, h0, and_self, if_true, Option.map_some, Int.toNat_natCast, UInt8.ofNat_toNat]
 rcases hU with ⟨hk, rfl⟩ | ⟨kb, hk, h2, h3, h4, h5⟩
 ·have hk' : ∀ n', St.get ⟨sto1, n'⟩ k = some (.cells [.ptr k 0, .nsl] false) := fun _ => hk
  have h1 : ∀ (st : St) (key : Nat), Nbo st key 5 [c] .nsl = some (.rsl key 1 0 1, st.put key (some (.bytes 5 [c]))) := fun st key => NhE (by simp) hl
  (try rw [Z0])
  (try simp (maxSteps := 2000000) (disch := first | omega | rfl | assumption) only [↓Xp, ↓Xt, Xq, Xc, Naf, Naa, Nat.reduceAdd, Nat.reduceMul, Nat.reduceLT, Nat.reduceEqDiff, reduceIte, Xa, Xn, unP, Nag, Nah, Nai, Xm, Nat.reduceLeDiff, List.nil_append, List.cons_append, hk', Nb7, Nbf, hb, h1])
  (try rw [Z0])
  (try simp (maxSteps := 2000000) (disch := first | omega | rfl | assumption) only [↓Xp, ↓Xt, Xq, Xc, Naf, Naa, Nat.reduceAdd, Nat.reduceMul, Nat.reduceLT, Nat.reduceEqDiff, reduceIte, Xa, Xn, unP, Nag, Nah, Nai, Xm, Nat.reduceLeDiff, List.nil_append, List.cons_append, hk', Nb7, Nbf, hb, h1])
  (try rw [Z0])
  (try simp (maxSteps := 2000000) (disch := first | omega | rfl | assumption) only [↓Xp, ↓Xt, Xq, Xc, Naf, Naa, Nat.reduceAdd, Nat.reduceMul, Nat.reduceLT, Nat.reduceEqDiff, reduceIte, Xa, Xn, unP, Nag, Nah, Nai, Xm, Nat.reduceLeDiff, List.nil_append, List.cons_append, hk', Nb7, Nbf, hb, h1])
  refine ⟨nofun, _, rfl, .inr ⟨cnt1 + 56, ?_, by omega, by simp only; omega, by simp, ?_⟩, fun j hj hl2 hn => ?_, by simp only; omega⟩
  ·rw [Ngv, St.get_putk]; rfl
  ·rw [Ngv, St.get_put_ne (by omega), St.get_putk]; try rfl
  ·rw [Ngv, St.get_put_ne (Ne.symm hj), St.get_put_ne (by omega), St.get_put_ne (by omega)]
   exact hK.g j hj (by simp only; omega) hn
 ·have hk' : ∀ n', St.get ⟨sto1, n'⟩ k = some (.cells [.ptr k 0, .rsl kb 1 0 l.length] false) := fun _ => hk
  have h1 : ∀ (n : Nat) (o : Option PObj) (key q : Nat), cnt1 ≤ q → Nbo ((⟨sto1, n⟩ : St).put q o) key 5 [c] (.rsl kb 1 0 l.length) = some (.rsl key 1 0 (l.length + 1), ((((⟨sto1, n⟩ : St).put q o).put kb none).put key (some (.bytes 5 (l ++ [c]))))) := fun n o key q hq =>
   NhF (by rw [St.get_put_ne (by simp only at h3; omega)]; exact h5) hl
  (try rw [Z0])
  (try simp (maxSteps := 2000000) (disch := first | omega | rfl | assumption) only [↓Xp, ↓Xt, Xq, Xc, Naf, Naa, Nat.reduceAdd, Nat.reduceMul, Nat.reduceLT, Nat.reduceEqDiff, reduceIte, Xa, Xn, unP, Nag, Nah, Nai, Xm, Nat.reduceLeDiff, List.nil_append, List.cons_append, hk', Nb7, Nbf, hb, h1])
  (try rw [Z0])
  (try simp (maxSteps := 2000000) (disch := first | omega | rfl | assumption) only [↓Xp, ↓Xt, Xq, Xc, Naf, Naa, Nat.reduceAdd, Nat.reduceMul, Nat.reduceLT, Nat.reduceEqDiff, reduceIte, Xa, Xn, unP, Nag, Nah, Nai, Xm, Nat.reduceLeDiff, List.nil_append, List.cons_append, hk', Nb7, Nbf, hb, h1])
  (try rw [Z0])
  (try simp (maxSteps := 2000000) (disch := first | omega | rfl | assumption) only [↓Xp, ↓Xt, Xq, Xc, Naf, Naa, Nat.reduceAdd, Nat.reduceMul, Nat.reduceLT, Nat.reduceEqDiff, reduceIte, Xa, Xn, unP, Nag, Nah, Nai, Xm, Nat.reduceLeDiff, List.nil_append, List.cons_append, hk', Nb7, Nbf, hb, h1])
  simp only at h3
  refine ⟨nofun, _, rfl, .inr ⟨cnt1 + 56, ?_, by omega, by simp only; omega, by simp, ?_⟩, fun j hj hl2 hn => ?_, by simp only; omega⟩
  ·rw [Ngv, St.get_putk, List.length_append]; rfl
  ·rw [Ngv, St.get_put_ne (by omega), St.get_putk]
  ·have hg := hK.g j hj (by simp only; omega) hn
   have hjb : kb ≠ j := by
    rintro rfl
    have e : St.get ⟨st.sto, st.cnt + 24⟩ kb = some (.bytes 5 l) := by rw [← hg]; exact h5
    exact hn _ _ e
   rw [Ngv, St.get_put_ne (Ne.symm hj), St.get_put_ne (by omega), St.get_put_ne hjb, St.get_put_ne (by omega)]
   exact hg
theorem NjI {cfg : Cfg} (hf : cfg.fn 6 = some m6) {fuel k : Nat} {l : List UInt8} {st : St} (h : Bld k l st) (hlt : k < st.cnt) (hl : l.length ≤ maxBytes) :
 ∃ r' st', Na2 cfg (fuel + 1) 6 [.ptr k 0] st = some (r', st') ∧ (r' = .s l ∧ BKeep k st st') := by
 refine Nbj hf ?_
 unfold m6
 simp only [Nap]
 rcases h with ⟨hk, rfl⟩ | ⟨hk, rfl⟩ | ⟨kb, hk, h2, h3, h4, h5⟩
 ·have hk' : ∀ n', St.get ⟨st.sto, n'⟩ k = some (.bld 25) := fun _ => hk
  (try rw [Z0])
  (try simp (maxSteps := 2000000) (disch := first | omega | rfl | assumption) only [↓Xp, ↓Xt, Xq, Xc, Naf, Naa, Nat.reduceAdd, Nat.reduceMul, Nat.reduceLT, Nat.reduceEqDiff, reduceIte, Xa, Xn, unP, Nag, Nah, Nai, Xm, Nat.reduceLeDiff, List.nil_append, List.cons_append, hk', NbC, NaY, Nbn])
  (try rw [Z0])
  (try simp (maxSteps := 2000000) (disch := first | omega | rfl | assumption) only [↓Xp, ↓Xt, Xq, Xc, Naf, Naa, Nat.reduceAdd, Nat.reduceMul, Nat.reduceLT, Nat.reduceEqDiff, reduceIte, Xa, Xn, unP, Nag, Nah, Nai, Xm, Nat.reduceLeDiff, List.nil_append, List.cons_append, hk', NbC, NaY, Nbn])
  (try rw [Z0])
  (try simp (maxSteps := 2000000) (disch := first | omega | rfl | assumption) only [↓Xp, ↓Xt, Xq, Xc, Naf, Naa, Nat.reduceAdd, Nat.reduceMul, Nat.reduceLT, Nat.reduceEqDiff, reduceIte, Xa, Xn, unP, Nag, Nah, Nai, Xm, Nat.reduceLeDiff, List.nil_append, List.cons_append, hk', NbC, NaY, Nbn])
  exact ⟨rfl, nofun, _, rfl, rfl, fun j hj hl hn => rfl, by simp only; omega⟩
 ·have hk' : ∀ n', St.get ⟨st.sto, n'⟩ k = some (.cells [.ptr k 0, .nsl] false) := fun _ => hk
  (try rw [Z0])
  (try simp (maxSteps := 2000000) (disch := first | omega | rfl | assumption) only [↓Xp, ↓Xt, Xq, Xc, Naf, Naa, Nat.reduceAdd, Nat.reduceMul, Nat.reduceLT, Nat.reduceEqDiff, reduceIte, Xa, Xn, unP, Nag, Nah, Nai, Xm, Nat.reduceLeDiff, List.nil_append, List.cons_append, hk', NaY, Nbn])
  (try rw [Z0])
  (try simp (maxSteps := 2000000) (disch := first | omega | rfl | assumption) only [↓Xp, ↓Xt, Xq, Xc, Naf, Naa, Nat.reduceAdd, Nat.reduceMul, Nat.reduceLT, Nat.reduceEqDiff, reduceIte, Xa, Xn, unP, Nag, Nah, Nai, Xm, Nat.reduceLeDiff, List.nil_append, List.cons_append, hk', NaY, Nbn])
  (try rw [Z0])
  (try simp (maxSteps := 2000000) (disch := first | omega | rfl | assumption) only [↓Xp, ↓Xt, Xq, Xc, Naf, Naa, Nat.reduceAdd, Nat.reduceMul, Nat.reduceLT, Nat.reduceEqDiff, reduceIte, Xa, Xn, unP, Nag, Nah, Nai, Xm, Nat.reduceLeDiff, List.nil_append, List.cons_append, hk', NaY, Nbn])
  exact ⟨rfl, nofun, _, rfl, rfl, fun j hj hl hn => rfl, by simp only; omega⟩
 ·have hk' : ∀ n', St.get ⟨st.sto, n'⟩ k = some (.cells [.ptr k 0, .rsl kb 1 0 l.length] false) := fun _ => hk
  have hkb : ∀ n', St.get ⟨st.sto, n'⟩ kb = some (.bytes 5 l) := fun _ => h5
  obtain ⟨n, hn⟩ : ∃ n, l.length = n + 1 := ⟨l.length - 1, by omega⟩
  rw [hn] at hk'
  have hs : ((n + 1 : Nat) : Int) = (l.length : Int) := by rw [hn]
  have hcond : ((n + 1 : Nat) : Int) = (l.length : Int) ∧ 0 < l.length ∧ l.length ≤ maxBytes := ⟨hs, h4, hl⟩
  (try rw [Z0])
  (try simp (maxSteps := 2000000) (disch := first | omega | rfl | assumption) only [↓Xp, ↓Xt, Xq, Xc, Naf, Naa, Nat.reduceAdd, Nat.reduceMul, Nat.reduceLT, Nat.reduceEqDiff, reduceIte, Xa, Xn, unP, Nag, Nah, Nai, Xm, Nat.reduceLeDiff, List.nil_append, List.cons_append, hk', hkb, NaY, Nbn, hcond])
  (try rw [Z0])
  (try simp (maxSteps := 2000000) (disch := first | omega | rfl | assumption) only [↓Xp, ↓Xt, Xq, Xc, Naf, Naa, Nat.reduceAdd, Nat.reduceMul, Nat.reduceLT, Nat.reduceEqDiff, reduceIte, Xa, Xn, unP, Nag, Nah, Nai, Xm, Nat.reduceLeDiff, List.nil_append, List.cons_append, hk', hkb, NaY, Nbn, hcond])
  (try rw [Z0])
  (try simp (maxSteps := 2000000) (disch := first | omega | rfl | assumption) only [↓Xp, ↓Xt, Xq, Xc, Naf, Naa, Nat.reduceAdd, Nat.reduceMul, Nat.reduceLT, Nat.reduceEqDiff, reduceIte, Xa, Xn, unP, Nag, Nah, Nai, Xm, Nat.reduceLeDiff, List.nil_append, List.cons_append, hk', hkb, NaY, Nbn, hcond])
  exact ⟨nofun, _, rfl, rfl, fun j hj hl2 hn2 => rfl, by simp only; omega⟩
end Go.Pe
