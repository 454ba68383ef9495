/-
 Bytes: the sum, seals, by the interpreter of plain data. No condition.
-/
import Derived.Test.YtadblicfhhllgaaEvtN
import Derived.Test.YtadblicfhhllgaaEvtG
import Derived.Test.YtadblicfhhllgaaCrcM
set_option linter.unusedVariables false
set_option linter.unusedSimpArgs false
set_option maxHeartbeats 4000000
namespace Go.Pe
open Go Go.Am Go.RowKit

theorem Nht (a b : Nat) (ha : a < 4294967296) (hb : b < 4294967296) : NbK .and .u32 (a : Int) (b : Int) = some (.i .u32 ((a &&& b : Nat) : Int)) := by
 rw [← u32_and_nat a b ha hb]; rfl
theorem NbY (a b : Nat) (ha : a < 4294967296) (hb : b < 4294967296) : NbK .xor .u32 (a : Int) (b : Int) = some (.i .u32 ((a ^^^ b : Nat) : Int)) := by
 rw [← u32_xor_nat a b ha hb]; rfl
theorem NgX {r : Nat} (h : r < 4294967296) : ∀ k, halfTo r k < 4294967296
 | 0 => by show r / 16 < _; omega
 | k + 1 => by
   unfold halfTo
   split
   ·refine xor_lt32 (NgX h k) ?_
    exact Nat.lt_of_le_of_lt (Nat.div_le_self _ _) (by decide)
   ·exact NgX h k
theorem NdF (r k : Nat) (hk : k ≤ 32) : (r : Int).fdiv (2 ^ (min k IntKind.u32.bits)) = ((r / 2 ^ k : Nat) : Int) := by
 rw [show min k IntKind.u32.bits = k by show min k 32 = k; omega]
 rw [Int.fdiv_eq_ediv_of_nonneg _ (Int.pow_nonneg (by decide))]
 push_cast
 rfl
theorem Nne {cfg : Cfg} (hf : cfg.fn 53 = some m53) {fuel : Nat} (hfu : 6 ≤ fuel) {st : St} {r : Nat} (hr : r < 4294967296) :
 ∃ r' st', NaH cfg (fuel + 1) 53 [.i .u32 r] st = some (r', st') ∧ r' = .i .u32 ((Am.m4 r : Nat) : Int) := by
 refine NaD hf ?_
 unfold m53
 have h4 : ¬ (Int.ofNat 4 < 0) := by decide
 have e4 : (r : Int).fdiv (2 ^ (min (Int.ofNat 4).toNat IntKind.u32.bits)) = ((r / 16 : Nat) : Int) := NdF r 4 (by omega)
 simp only [Nag, ↓Z0, ↓Xp, ↓Xt, Xq, Xc, Nad, Naa, Nat.reduceAdd, Nat.reduceMul, Nat.reduceLT, Nat.reduceEqDiff, reduceIte, h4, e4]
 refine Z9 (k := 4 - 0) (fun d x => ∃ k : Nat, k ≤ 4 ∧ d = 4 - k ∧ x.env.get 0 = .i .u32 r ∧ x.env.get 3 = .i .u32 ((halfTo r k : Nat) : Int) ∧ x.env.get 7 = .i .i64 k) ?_ ⟨0, by omega, rfl, ?_⟩ (by omega)
 ·rintro d ⟨env, st1⟩ ⟨k, hk, rfl, g0, g3, g7⟩
  simp only at g0 g3 g7
  by_cases hlt : k < 4
  ·have hlti : ((k : Nat) : Int) < Int.ofNat 4 := by show (k : Int) < 4; omega
   have hwi : IntKind.i64.wrap ((k : Int) + Int.ofNat 1) = ((k + 1 : Nat) : Int) := by
    rw [NaI _ ⟨by show _ ≤ (k : Int) + 1; omega, by show (k : Int) + 1 < _; omega⟩]; rfl
   have hk0 : ¬ (((k : Nat) : Int) < 0) := by omega
   have hs := NdF r k (by omega)
   have hb1 : r / 2 ^ k < 4294967296 := Nat.lt_of_le_of_lt (Nat.div_le_self _ _) hr
   have ha : NbK .and .u32 ((r / 2 ^ k : Nat) : Int) (Int.ofNat 1) = some (.i .u32 ((r / 2 ^ k % 2 : Nat) : Int)) := by
    have := Nht (r / 2 ^ k) 1 hb1 (by decide)
    rw [Nat.and_one_is_mod] at this
    exact this
   have hl := NgX hr k
   by_cases hbit : r / 2 ^ k % 2 = 1
   ·have e1 : (((r / 2 ^ k % 2 : Nat) : Int) == Int.ofNat 1) = true := by rw [hbit]; rfl
    have hw3 : IntKind.i64.wrap (Int.ofNat 3 - (k : Int)) = ((3 - k : Nat) : Int) := by
     rw [NaI _ ⟨by show _ ≤ (3 : Int) - k; omega, by show (3 : Int) - k < _; omega⟩]; show (3 : Int) - k = _; omega
    have hn3 : ¬ (((3 - k : Nat) : Int) < 0) := by omega
    have hs3 : (Int.ofNat 3988292384).fdiv (2 ^ (min (3 - k) IntKind.u32.bits)) = ((3988292384 / 2 ^ (3 - k) : Nat) : Int) := NdF 3988292384 (3 - k) (by omega)
    have hx := NbY (halfTo r k) (3988292384 / 2 ^ (3 - k)) hl (Nat.lt_of_le_of_lt (Nat.div_le_self _ _) (by decide))
    have en : halfTo r (k + 1) = halfTo r k ^^^ (3988292384 / 2 ^ (3 - k)) := by
     conv => lhs; unfold halfTo
     rw [if_pos hbit]
    simp only [↓Z0, ↓Xp, ↓Xt, Xq, Xc, Nad, Naa, Nat.reduceAdd, Nat.reduceMul, Nat.reduceLT, Nat.reduceEqDiff, reduceIte, g0, g3, g7, hlti, hk0, hs, ha, e1, hw3, hn3, hs3, hx, hwi]
    refine ⟨4 - (k + 1), by omega, k + 1, ?_⟩
    rw [en]
    (repeat' (first | exact True.intro | rfl | assumption | omega | apply And.intro))
   ·have e1 : (((r / 2 ^ k % 2 : Nat) : Int) == Int.ofNat 1) = false := by
     rw [show r / 2 ^ k % 2 = 0 by omega]; rfl
    have en : halfTo r (k + 1) = halfTo r k := by
     conv => lhs; unfold halfTo
     rw [if_neg hbit]
    simp only [↓Z0, ↓Xp, ↓Xt, Xq, Xc, Nad, Naa, Nat.reduceAdd, Nat.reduceMul, Nat.reduceLT, Nat.reduceEqDiff, reduceIte, g0, g3, g7, hlti, hk0, hs, ha, e1, hwi]
    refine ⟨4 - (k + 1), by omega, k + 1, ?_⟩
    rw [en]
    (repeat' (first | exact True.intro | rfl | assumption | omega | apply And.intro))
  ·have hke : k = 4 := by omega
   subst hke
   simp only [↓Z0, ↓Xp, ↓Xt, Xq, Xc, Nad, Naa, Nat.reduceAdd, Nat.reduceMul, Nat.reduceLT, Nat.reduceEqDiff, reduceIte, g0, g3, g7, show ¬ (((4 : Nat) : Int) < Int.ofNat 4) from Int.lt_irrefl _]
   refine ⟨nofun, _, rfl, ?_⟩
   rw [Nm7]
   simp only [NaX, ↓Z0, ↓Xp, ↓Xt, Xq, Xc, Nad, Naa, Nat.reduceAdd, Nat.reduceMul, Nat.reduceLT, Nat.reduceEqDiff, reduceIte]
 ·simp only [Env.get_put, Nat.reduceEqDiff, reduceIte]
  refine ⟨trivial, rfl, rfl⟩
def NjS : List PV → Option PV
 | [.i .u32 r] => if 0 ≤ r ∧ r < 4294967296 then some (.i .u32 ((Am.m4 r.toNat : Nat) : Int)) else none
 | _ => none
theorem Nlg (args : List PV) (r : PV) (h : NjS args = some r) : ∃ fuel, evP cfgE0 fuel 53 args = some r := by
 unfold NjS at h
 split at h
 ·rename_i n
  split at h
  ·rename_i hc
   simp only [Sj] at h
   subst h
   have := Nne (cfg := cfgE0) (by kernel_rfl) (fuel := 6) (by omega) (st := { sto := .leaf, cnt := 1 }) (r := n.toNat) (by omega)
   rw [show ((n.toNat : Nat) : Int) = n by omega] at this
   exact ⟨6 + 1, Nbr rfl rfl (fun _ => rfl) this⟩
  ·simp at h
 ·simp at h
theorem NoO {cfg : Cfg} (hf : cfg.fn 45 = some m45) (hx : cfg.ext 53 = some NjS) {fuel : Nat} {st : St} {v : PV} {l : List UInt8} (hv : inL v = some l) (hll : l.length ≤ 140737488355328) (hfu : l.length < fuel) :
 ∃ r' st', NaH cfg (fuel + 1) 45 [v] st = some (r', st') ∧ r' = .i .u32 ((crc l : Nat) : Int) := by
 refine NaD hf ?_
 unfold m45
 have hlen := Nbx hv
 have ch : ∀ (r : Nat) (st : St) (key : Nat), r < 4294967296 → Nae (Naj cfg (NaH cfg fuel) 53) false st key [.i .u32 r] = some (.i .u32 ((Am.m4 r : Nat) : Int), st) := by
  intro r st key hr
  refine Nap rfl ?_ rfl
  rw [Nac hx]
  unfold NjS
  simp only [Int.toNat_natCast]
  rw [if_pos (by omega)]
 simp only [Nag, ↓Z0, ↓Xp, ↓Xt, Xq, Xc, Nad, Naa, Nat.reduceAdd, Nat.reduceMul, Nat.reduceLT, Nat.reduceEqDiff, reduceIte, hlen]
 refine Z9 (k := l.length - 0) (fun d x => ∃ i r : Nat, i ≤ l.length ∧ d = l.length - i ∧ r < 4294967296 ∧ NcH r (l.drop i) = NcH 4294967295 l ∧ x.env.get 3 = .i .u32 r ∧ x.env.get 6 = v ∧ x.env.get 7 = .i .i64 l.length ∧ x.env.get 8 = .i .i64 i) ?_ ⟨0, 4294967295, Nat.zero_le _, rfl, by omega, rfl, ?_⟩ (by omega)
 ·rintro d ⟨env, st1⟩ ⟨i, r, hi, rfl, hr, hp, g3, g6, g7, g8⟩
  simp only at g3 g6 g7 g8
  by_cases hlt : i < l.length
  ·have hne : l ≠ [] := by intro e; rw [e] at hlt; simp at hlt
   rw [Nbp hv hne] at g6
   rw [NcJ hlt] at hp
   have hld := fun c => Ncn (st := ⟨st1.sto, c⟩) hlt
   obtain ⟨c, hc⟩ : ∃ c, l.getD i 0 = c := ⟨_, rfl⟩
   rw [hc] at hp
   simp only [hc] at hld
   have hcl := c.toNat_lt
   have hlti : ((i : Nat) : Int) < ((l.length : Nat) : Int) := by omega
   have h0i : 0 ≤ ((i : Nat) : Int) := by omega
   have hlen1 : (Nab l).length = l.length * 1 := by rw [Nah, Nat.mul_one]
   have hwi : IntKind.i64.wrap ((i : Int) + Int.ofNat 1) = ((i + 1 : Nat) : Int) := by
    rw [NaI _ ⟨by show _ ≤ (i : Int) + 1; omega, by show (i : Int) + 1 < _; omega⟩]; rfl
   have hwc : IntKind.u32.wrap (c.toNat : Int) = (c.toNat : Int) := NdS _ ⟨by omega, by omega⟩
   have hxr := NbY r c.toNat hr (by omega)
   have hx1 := xor_lt32 hr (byte_lt32 c)
   have hx2 := NpQ hx1
   have c1 := fun (st : St) (key : Nat) => ch (r ^^^ c.toNat) st key hx1
   have c2 := fun (st : St) (key : Nat) => ch (Am.m4 (r ^^^ c.toNat)) st key hx2
   have hcr : NcH r (c :: l.drop (i + 1)) = NcH (Am.m8 (r ^^^ c.toNat)) (l.drop (i + 1)) := rfl
   rw [hcr] at hp
   simp only [↓Z0, ↓Xp, ↓Xt, Xq, Xc, Nad, Naa, Nat.reduceAdd, Nat.reduceMul, Nat.reduceLT, Nat.reduceEqDiff, reduceIte, g3, g6, g7, g8, hlti, hlen1, h0i, hld, hwc, hxr, c1, c2, hwi]
   refine ⟨l.length - (i + 1), by omega, i + 1, Am.m8 (r ^^^ c.toNat), ?_⟩
   have h8 := m8_lt hx1
   rw [Nbp hv hne]
   (repeat' (first | exact True.intro | rfl | assumption | omega | apply And.intro))
  ·have hie : i = l.length := by omega
   subst hie
   rw [List.drop_length] at hp
   have hp' : r = NcH 4294967295 l := hp
   have hw : IntKind.u32.wrap (Int.ofNat 4294967295 - (r : Int)) = ((crc l : Nat) : Int) := by
    rw [NdS _ ⟨by show (0 : Int) ≤ 4294967295 - r; omega, by show (4294967295 : Int) - r < _; omega⟩]
    unfold crc
    rw [← hp']
    show (4294967295 : Int) - r = _
    omega
   simp only [↓Z0, ↓Xp, ↓Xt, Xq, Xc, Nad, Naa, Nat.reduceAdd, Nat.reduceMul, Nat.reduceLT, Nat.reduceEqDiff, reduceIte, g3, g6, g7, g8, Int.lt_irrefl, hw]
   refine ⟨nofun, _, rfl, ?_⟩
   simp only [NaX, ↓Z0, ↓Xp, ↓Xt, Xq, Xc, Nad, Naa, Nat.reduceAdd, Nat.reduceMul, Nat.reduceLT, Nat.reduceEqDiff, reduceIte]
 ·simp [Env.get_put]
def No5 : List PV → Option PV
 | [v] => match inL v with
   | some l => if l.length ≤ 140737488355328 then some (.i .u32 ((crc l : Nat) : Int)) else none
   | none => none
 | _ => none
end Go.Pe
