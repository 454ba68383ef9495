/-
  Bytes: the sum, seals, by the interpreter of plain data. No condition.
-/
import Derived.Test.YtmjoneiagfegdaaEvtN
import Derived.Test.YtmjoneiagfegdaaEvtG
import Derived.Test.YtmjoneiagfegdaaCrcM
set_option linter.unusedVariables false
set_option linter.unusedSimpArgs false
namespace Go.Pe
open Go Go.Am Go.RowKit

theorem ibits_and32 (a b : Nat) (ha : a < 4294967296) (hb : b < 4294967296) : ibits .and .u32 (a : Int) (b : Int) = some (.i .u32 ((a &&& b : Nat) : Int)) := by
  rw [← u32_and_nat a b ha hb]; rfl
theorem ibits_xor32 (a b : Nat) (ha : a < 4294967296) (hb : b < 4294967296) : ibits .xor .u32 (a : Int) (b : Int) = some (.i .u32 ((a ^^^ b : Nat) : Int)) := by
  rw [← u32_xor_nat a b ha hb]; rfl
theorem half_lt {r : Nat} (h : r < 4294967296) : ∀ k, halfTo r k < 4294967296
  | 0 => by show r / 16 < _; omega
  | k + 1 => by
    unfold halfTo
    split
    · refine xor_lt32 (half_lt h k) ?_
      exact Nat.lt_of_le_of_lt (Nat.div_le_self _ _) (by decide)
    · exact half_lt h k
theorem shr_nat (r k : Nat) (hk : k ≤ 32) : (r : Int).fdiv (2 ^ (min k IntKind.u32.bits)) = ((r / 2 ^ k : Nat) : Int) := by
  rw [show min k IntKind.u32.bits = k by show min k 32 = k; omega]
  rw [Int.fdiv_eq_ediv_of_nonneg _ (Int.pow_nonneg (by decide))]
  push_cast
  rfl
set_option maxHeartbeats 4000000 in
theorem half_ev {cfg : Cfg} (hf : cfg.fn 40 = some m40) {fuel : Nat} (hfu : 6 ≤ fuel) {st : St} {r : Nat} (hr : r < 4294967296) :
    ∃ r' st', evFn cfg (fuel + 1) 40 [.i .u32 r] st = some (r', st') ∧ r' = .i .u32 ((Am.m4 r : Nat) : Int) := by
  refine evFn_W hf ?_
  unfold m40
  have h4 : ¬ (Int.ofNat 4 < 0) := by decide
  have e4 : (r : Int).fdiv (2 ^ (min (Int.ofNat 4).toNat IntKind.u32.bits)) = ((r / 16 : Nat) : Int) := shr_nat r 4 (by omega)
  simp only [putArgs, ↓Z0, ↓Xp, ↓Xt, Xq, Xc, binP, ofCells, Nat.reduceAdd, Nat.reduceMul, Nat.reduceLT, Nat.reduceEqDiff, reduceIte, h4, e4]
  refine Z9 (k := 4 - 0) (fun d x => ∃ k : Nat, k ≤ 4 ∧ d = 4 - k ∧ x.env.get 0 = .i .u32 r ∧ x.env.get 3 = .i .u32 ((halfTo r k : Nat) : Int) ∧ x.env.get 7 = .i .i64 k) ?_ ⟨0, by omega, rfl, ?_⟩ (by omega)
  · rintro d ⟨env, st1⟩ ⟨k, hk, rfl, g0, g3, g7⟩
    simp only at g0 g3 g7
    by_cases hlt : k < 4
    · have hlti : ((k : Nat) : Int) < Int.ofNat 4 := by show (k : Int) < 4; omega
      have hwi : IntKind.i64.wrap ((k : Int) + Int.ofNat 1) = ((k + 1 : Nat) : Int) := by
        rw [wr_i64 _ ⟨by show _ ≤ (k : Int) + 1; omega, by show (k : Int) + 1 < _; omega⟩]; rfl
      have hk0 : ¬ (((k : Nat) : Int) < 0) := by omega
      have hs := shr_nat r k (by omega)
      have hb1 : r / 2 ^ k < 4294967296 := Nat.lt_of_le_of_lt (Nat.div_le_self _ _) hr
      have ha : ibits .and .u32 ((r / 2 ^ k : Nat) : Int) (Int.ofNat 1) = some (.i .u32 ((r / 2 ^ k % 2 : Nat) : Int)) := by
        have := ibits_and32 (r / 2 ^ k) 1 hb1 (by decide)
        rw [Nat.and_one_is_mod] at this
        exact this
      have hl := half_lt hr k
      by_cases hbit : r / 2 ^ k % 2 = 1
      · have e1 : (((r / 2 ^ k % 2 : Nat) : Int) == Int.ofNat 1) = true := by rw [hbit]; rfl
        have hw3 : IntKind.i64.wrap (Int.ofNat 3 - (k : Int)) = ((3 - k : Nat) : Int) := by
          rw [wr_i64 _ ⟨by show _ ≤ (3 : Int) - k; omega, by show (3 : Int) - k < _; omega⟩]; show (3 : Int) - k = _; omega
        have hn3 : ¬ (((3 - k : Nat) : Int) < 0) := by omega
        have hs3 : (Int.ofNat 3988292384).fdiv (2 ^ (min (3 - k) IntKind.u32.bits)) = ((3988292384 / 2 ^ (3 - k) : Nat) : Int) := shr_nat 3988292384 (3 - k) (by omega)
        have hx := ibits_xor32 (halfTo r k) (3988292384 / 2 ^ (3 - k)) hl (Nat.lt_of_le_of_lt (Nat.div_le_self _ _) (by decide))
        have en : halfTo r (k + 1) = halfTo r k ^^^ (3988292384 / 2 ^ (3 - k)) := by
          conv => lhs; unfold halfTo
          rw [if_pos hbit]
        simp only [↓Z0, ↓Xp, ↓Xt, Xq, Xc, binP, ofCells, Nat.reduceAdd, Nat.reduceMul, Nat.reduceLT, Nat.reduceEqDiff, reduceIte, g0, g3, g7, hlti, hk0, hs, ha, e1, hw3, hn3, hs3, hx, hwi]
        refine ⟨4 - (k + 1), by omega, k + 1, ?_⟩
        rw [en]
        (repeat' (first | exact True.intro | rfl | assumption | omega | apply And.intro))
      · have e1 : (((r / 2 ^ k % 2 : Nat) : Int) == Int.ofNat 1) = false := by
          rw [show r / 2 ^ k % 2 = 0 by omega]; rfl
        have en : halfTo r (k + 1) = halfTo r k := by
          conv => lhs; unfold halfTo
          rw [if_neg hbit]
        simp only [↓Z0, ↓Xp, ↓Xt, Xq, Xc, binP, ofCells, Nat.reduceAdd, Nat.reduceMul, Nat.reduceLT, Nat.reduceEqDiff, reduceIte, g0, g3, g7, hlti, hk0, hs, ha, e1, hwi]
        refine ⟨4 - (k + 1), by omega, k + 1, ?_⟩
        rw [en]
        (repeat' (first | exact True.intro | rfl | assumption | omega | apply And.intro))
    · have hke : k = 4 := by omega
      subst hke
      simp only [↓Z0, ↓Xp, ↓Xt, Xq, Xc, binP, ofCells, Nat.reduceAdd, Nat.reduceMul, Nat.reduceLT, Nat.reduceEqDiff, reduceIte, g0, g3, g7, show ¬ (((4 : Nat) : Int) < Int.ofNat 4) from Int.lt_irrefl _]
      refine ⟨nofun, _, rfl, ?_⟩
      rw [half_eq]
      simp only [tupV, ↓Z0, ↓Xp, ↓Xt, Xq, Xc, binP, ofCells, Nat.reduceAdd, Nat.reduceMul, Nat.reduceLT, Nat.reduceEqDiff, reduceIte]
  · simp only [Env.get_put, Nat.reduceEqDiff, reduceIte]
    refine ⟨trivial, rfl, rfl⟩
def gHalf : List PV → Option PV
  | [.i .u32 r] => if 0 ≤ r ∧ r < 4294967296 then some (.i .u32 ((Am.m4 r.toNat : Nat) : Int)) else none
  | _ => none
theorem half_any (args : List PV) (r : PV) (h : gHalf args = some r) : ∃ fuel, evP cfgE0 fuel 40 args = some r := by
  unfold gHalf at h
  split at h
  · rename_i n
    split at h
    · rename_i hc
      simp only [Option.some.injEq] at h
      subst h
      have := half_ev (cfg := cfgE0) (by kernel_rfl) (fuel := 6) (by omega) (st := { sto := .leaf, cnt := 1 }) (r := n.toNat) (by omega)
      rw [show ((n.toNat : Nat) : Int) = n by omega] at this
      exact ⟨6 + 1, ev_flat rfl rfl (fun _ => rfl) this⟩
    · simp at h
  · simp at h
set_option maxHeartbeats 4000000 in
theorem crc_ev {cfg : Cfg} (hf : cfg.fn 16 = some m16) (hx : cfg.ext 40 = some gHalf) {fuel : Nat} {st : St} {v : PV} {l : List UInt8} (hv : inL v = some l) (hll : l.length ≤ 140737488355328) (hfu : l.length < fuel) :
    ∃ r' st', evFn cfg (fuel + 1) 16 [v] st = some (r', st') ∧ r' = .i .u32 ((crc l : Nat) : Int) := by
  refine evFn_W hf ?_
  unfold m16
  have hlen := in_len hv
  have ch : ∀ (r : Nat) (st : St) (key : Nat), r < 4294967296 → callStep (runPure cfg (evFn cfg fuel) 40) false st key [.i .u32 r] = some (.i .u32 ((Am.m4 r : Nat) : Int), st) := by
    intro r st key hr
    refine callStep_flat rfl ?_ rfl
    rw [runPure_ext hx]
    unfold gHalf
    simp only [Int.toNat_natCast]
    rw [if_pos (by omega)]
  simp only [putArgs, ↓Z0, ↓Xp, ↓Xt, Xq, Xc, binP, ofCells, Nat.reduceAdd, Nat.reduceMul, Nat.reduceLT, Nat.reduceEqDiff, reduceIte, hlen]
  refine Z9 (k := l.length - 0) (fun d x => ∃ i r : Nat, i ≤ l.length ∧ d = l.length - i ∧ r < 4294967296 ∧ crcReg r (l.drop i) = crcReg 4294967295 l ∧ x.env.get 3 = .i .u32 r ∧ x.env.get 6 = v ∧ x.env.get 7 = .i .i64 l.length ∧ x.env.get 8 = .i .i64 i) ?_ ⟨0, 4294967295, Nat.zero_le _, rfl, by omega, rfl, ?_⟩ (by omega)
  · rintro d ⟨env, st1⟩ ⟨i, r, hi, rfl, hr, hp, g3, g6, g7, g8⟩
    simp only at g3 g6 g7 g8
    by_cases hlt : i < l.length
    · have hne : l ≠ [] := by intro e; rw [e] at hlt; simp at hlt
      rw [in_cons hv hne] at g6
      rw [drop_cons hlt] at hp
      have hld := fun c => load_in (st := ⟨st1.sto, c⟩) hlt
      obtain ⟨c, hc⟩ : ∃ c, l.getD i 0 = c := ⟨_, rfl⟩
      rw [hc] at hp
      simp only [hc] at hld
      have hcl := c.toNat_lt
      have hlti : ((i : Nat) : Int) < ((l.length : Nat) : Int) := by omega
      have h0i : 0 ≤ ((i : Nat) : Int) := by omega
      have hlen1 : (ofBytes l).length = l.length * 1 := by rw [len_ofBytes, Nat.mul_one]
      have hwi : IntKind.i64.wrap ((i : Int) + Int.ofNat 1) = ((i + 1 : Nat) : Int) := by
        rw [wr_i64 _ ⟨by show _ ≤ (i : Int) + 1; omega, by show (i : Int) + 1 < _; omega⟩]; rfl
      have hwc : IntKind.u32.wrap (c.toNat : Int) = (c.toNat : Int) := wr_u32 _ ⟨by omega, by omega⟩
      have hxr := ibits_xor32 r c.toNat hr (by omega)
      have hx1 := xor_lt32 hr (byte_lt32 c)
      have hx2 := m4_lt hx1
      have c1 := fun (st : St) (key : Nat) => ch (r ^^^ c.toNat) st key hx1
      have c2 := fun (st : St) (key : Nat) => ch (Am.m4 (r ^^^ c.toNat)) st key hx2
      have hcr : crcReg r (c :: l.drop (i + 1)) = crcReg (Am.m8 (r ^^^ c.toNat)) (l.drop (i + 1)) := rfl
      rw [hcr] at hp
      simp only [↓Z0, ↓Xp, ↓Xt, Xq, Xc, binP, ofCells, Nat.reduceAdd, Nat.reduceMul, Nat.reduceLT, Nat.reduceEqDiff, reduceIte, g3, g6, g7, g8, hlti, hlen1, h0i, hld, hwc, hxr, c1, c2, hwi]
      refine ⟨l.length - (i + 1), by omega, i + 1, Am.m8 (r ^^^ c.toNat), ?_⟩
      have h8 := m8_lt hx1
      rw [in_cons hv hne]
      (repeat' (first | exact True.intro | rfl | assumption | omega | apply And.intro))
    · have hie : i = l.length := by omega
      subst hie
      rw [List.drop_length] at hp
      have hp' : r = crcReg 4294967295 l := hp
      have hw : IntKind.u32.wrap (Int.ofNat 4294967295 - (r : Int)) = ((crc l : Nat) : Int) := by
        rw [wr_u32 _ ⟨by show (0 : Int) ≤ 4294967295 - r; omega, by show (4294967295 : Int) - r < _; omega⟩]
        unfold crc
        rw [← hp']
        show (4294967295 : Int) - r = _
        omega
      simp only [↓Z0, ↓Xp, ↓Xt, Xq, Xc, binP, ofCells, Nat.reduceAdd, Nat.reduceMul, Nat.reduceLT, Nat.reduceEqDiff, reduceIte, g3, g6, g7, g8, Int.lt_irrefl, hw]
      refine ⟨nofun, _, rfl, ?_⟩
      simp only [tupV, ↓Z0, ↓Xp, ↓Xt, Xq, Xc, binP, ofCells, Nat.reduceAdd, Nat.reduceMul, Nat.reduceLT, Nat.reduceEqDiff, reduceIte]
  · simp [Env.get_put]
def gCrc : List PV → Option PV
  | [v] => match inL v with
    | some l => if l.length ≤ 140737488355328 then some (.i .u32 ((crc l : Nat) : Int)) else none
    | none => none
  | _ => none
end Go.Pe
