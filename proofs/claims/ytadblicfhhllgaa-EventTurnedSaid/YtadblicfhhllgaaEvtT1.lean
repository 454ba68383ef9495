/-
  EventTurned, by the interpreter of plain data. No condition.
-/
import Derived.Test.YtadblicfhhllgaaEvtJ
import Derived.Test.YtadblicfhhllgaaEvtW
import Derived.Test.YtadblicfhhllgaaEvtAr
set_option linter.unusedVariables false
set_option linter.unusedSimpArgs false
namespace Go.Pe
open Go Go.Am Go.RowKit

theorem ibits_xor8n (a b : Nat) (ha : a < 256) (hb : b < 256) : ibits .xor .u8 (a : Int) (b : Int) = some (.i .u8 ((a ^^^ b : Nat) : Int)) := by
  rw [← u8_xor_nat a b ha hb]; rfl
theorem ibits_xor8 (a b : UInt8) : ibits .xor .u8 (a.toNat : Int) (b.toNat : Int) = some (.i .u8 ((a ^^^ b).toNat : Int)) := by
  rw [UInt8.toNat_xor]
  exact ibits_xor8n _ _ a.toNat_lt b.toNat_lt
theorem set_getD {l : List UInt8} {i : Nat} {c : UInt8} (h : i < l.length) : (l.set i c).getD i 0 = c := by
  simp [List.getD_eq_getElem?_getD, h]
def tB (t : List UInt8) : List PV := t.map fun c => .i .u8 c.toNat
theorem load_tb {st : St} {k : Nat} {t : List UInt8} (hk : st.get k = some (.cells (ofBytes t) false)) {i : Nat} (hi : i < t.length) : loadP st 1 (.ptr k (0 + i * 1)) = some [.i .u8 ((t.getD i 0).toNat : Int)] := load_byte hk hi
theorem frame_bytes {l : List Ev} (h2 : l.length ≤ 4096) {i : Nat} (hi : i < (varint (bodyL l).length).length) : 128 ≤ ((frameL l).getD i 0).toNat ↔ i + 1 < (varint (bodyL l).length).length := by
  have hB := bodyL_le h2
  have e : (frameL l).getD i 0 = (varint (bodyL l).length).getD i 0 := by
    rw [frameL_split, List.getD_eq_getElem?_getD, List.getElem?_append_left hi, ← List.getD_eq_getElem?_getD]
  rw [e]
  exact varint_bytes (by omega) hi
theorem any_take_succ {t : List UInt8} {i : Nat} (hi : i < t.length) : (t.take (i + 1)).any (· != 0) = ((t.take i).any (· != 0) || (t.getD i 0 != 0)) := by
  rw [List.take_add_one, List.any_append]
  congr 1
  simp [List.getElem?_eq_getElem hi, List.getD_eq_getElem?_getD]
set_option maxHeartbeats 8000000 in
set_option maxRecDepth 100000 in
theorem turned_ev {l : List Ev} {at0 : Int} {t : List UInt8} (hlb : l.length ≤ 140737488355328) (hE : ∀ e ∈ l, EvIn e) (hat : in64 at0) (ht : t.length = 4) : ∃ fuel, evP cfgK7 fuel 9 [.fsl l.length (evsC l), .i .i64 at0, .agg (ofBytes t)] = some (.b true) := by
  refine ⟨10 + 1, ev_flat rfl rfl (fun _ => rfl) (evFn_W (by kernel_rfl : cfgK7.fn 9 = some m9) ?_)⟩
  unfold m9
  have h1t : (PV.agg (ofBytes t)).cells.all PV.one = true := one_ofBytes t
  have aw := fun st key => k_awake (callE := evFn cfgK7 10) st key
  have hln : ∀ (n : Nat) (cs : List PV), lenP (.fsl n cs) = some (.i .i64 n) := fun _ _ => rfl
  have hlr : ∀ (a b c n : Nat), lenP (.rsl a b c n) = some (.i .i64 n) := fun _ _ _ _ => rfl
  refine Za (fun x => x.env.get 0 = .fsl l.length (evsC l) ∧ x.env.get 1 = .i .i64 at0 ∧ x.env.get 5 = .ptr 1 0 ∧ x.st.get 1 = some (.cells (ofBytes t) false) ∧ x.st.cnt = 17) ?_ ?_
  · simp only [putArgs, ↓Z0, ↓Z1, ↓Z2, ↓Z3, ↓Z4, ↓Z5, ↓Z6, ↓Z7, ↓Zb, ↓Zc, ↓Ze, ↓Zf, ↓Zg, ↓Zh, ↓Zi, ↓Zm, ↓Zn, ↓Zj, ↓Zq, ↓Zr, ↓Zx, ↓Zy, ↓Zz, ↓ZA, ↓ZB, ↓ZC, ↓ZD, ↓ZE, ↓ZF, ↓ZG, ↓ZH, ↓ZI, ↓ZJ, ↓ZK, ↓ZL, ↓ZM, ↓ZN, ↓ZO, ↓ZP, ↓ZQ, ↓ZR, ↓ZS, ↓ZT, ↓ZU, ↓ZV, ↓ZW, ↓ZX, ↓ZY, ↓ZZ, ↓Z00_, ↓Z01_, ↓Z02_, ↓Z03_, ↓Z04_, ↓Z05_, ↓Z06_, ↓Z07_, ↓Z08_, ↓Z09_, ↓Z0a_, ↓Z0b_, ↓Z0c_, ↓Z0d_, ↓Z0e_, ↓Z0f_, ↓Z0g_, ↓Z0h_, ↓Z0i_, ↓Z0j_, ↓Z0k_, ↓Z0l_, ↓Z0m_, ↓Z0n_, Z1, Z7, Zb, Zc, Ze, Zf, Zg, Zh, Zi, Zm, Zn, Zo, Zj, Zq, Zr, Zx, Zz, Z0p_, Z0q_, Z0r_, Z0s_, Z0t_, Z0u_, Z0v_, Z0w_, Z0x_, Z0y_, Z0z_, Z0A_, Env.get_put, Env.get_leaf, Nat.reduceAdd, Nat.reduceMul, Nat.reduceLT, Nat.reduceEqDiff, reduceIte, List.length_cons, List.length_nil, Nat.add_assoc, binP, ne_eq, not_true_eq_false, map_some, decide_eq_true_eq, decide_true, decide_false, ZA, ofCells, Bool.false_eq_true, Int.toNat_natCast, and_true, true_and, Bool.not_true, Bool.not_false, Option.map_none, List.map_cons, List.map_nil, Z0B_, eq_self_iff_true, Bool.true_eq_false, Z0C_, Z0D_, Z0E_, Z0F_, Z0G_, Z0H_, Z0I_, Z0J_, Z0K_, Z0L_, Z0M_, Z0N_, Z0O_, Z0P_, Z0Q_, Z0R_, Z0S_, Z0T_, Z0U_, Z0V_, Z0W_, Z0X_, Z0Y_, Z0Z_, Z10_, Z11_, Z12_, Z13_, Z14_, Z15_, Z16_, Z17_, Z18_, Z19_, Z1a_, Z1b_, Z1c_, Z1d_, Z1e_, Z1f_, Z1g_, List.take_succ_cons, List.take_zero, List.drop_succ_cons, List.drop_zero, List.cons_append, List.nil_append, List.append_nil, List.all_cons, List.all_nil, Bool.and_self, Bool.and_true, Bool.true_and, Nat.zero_add, Nat.add_zero, Nat.reduceLeDiff, Nat.le_refl, List.getElem?_cons_zero, List.getElem?_cons_succ, Nat.add_left_cancel_iff, Nat.left_eq_add, Nat.add_eq_left, not_false_eq_true, Z1h_, Z1i_, Z1j_, Z1k_, h1t]
    (repeat' (first | exact True.intro | rfl | assumption | omega | apply And.intro))
  rintro ⟨env, ⟨sto, c⟩⟩ ⟨g0, g1, g5, k1, hc⟩
  simp only at g0 g1 g5 k1 hc
  subst hc
  by_cases z0 : l = []
  · have e0 : ((l.length : Int) == Int.ofNat 0) = true := by rw [z0]; rfl
    simp only [↓Z0, ↓Z1, ↓Z2, ↓Z3, ↓Z4, ↓Z5, ↓Z6, ↓Z7, ↓Zb, ↓Zc, ↓Ze, ↓Zf, ↓Zg, ↓Zh, ↓Zi, ↓Zm, ↓Zn, ↓Zj, ↓Zq, ↓Zr, ↓Zx, ↓Zy, ↓Zz, ↓ZA, ↓ZB, ↓ZC, ↓ZD, ↓ZE, ↓ZF, ↓ZG, ↓ZH, ↓ZI, ↓ZJ, ↓ZK, ↓ZL, ↓ZM, ↓ZN, ↓ZO, ↓ZP, ↓ZQ, ↓ZR, ↓ZS, ↓ZT, ↓ZU, ↓ZV, ↓ZW, ↓ZX, ↓ZY, ↓ZZ, ↓Z00_, ↓Z01_, ↓Z02_, ↓Z03_, ↓Z04_, ↓Z05_, ↓Z06_, ↓Z07_, ↓Z08_, ↓Z09_, ↓Z0a_, ↓Z0b_, ↓Z0c_, ↓Z0d_, ↓Z0e_, ↓Z0f_, ↓Z0g_, ↓Z0h_, ↓Z0i_, ↓Z0j_, ↓Z0k_, ↓Z0l_, ↓Z0m_, ↓Z0n_, Z1, Z7, Zb, Zc, Ze, Zf, Zg, Zh, Zi, Zm, Zn, Zo, Zj, Zq, Zr, Zx, Zz, Z0p_, Z0q_, Z0r_, Z0s_, Z0t_, Z0u_, Z0v_, Z0w_, Z0x_, Z0y_, Z0z_, Z0A_, Env.get_put, Env.get_leaf, Nat.reduceAdd, Nat.reduceMul, Nat.reduceLT, Nat.reduceEqDiff, reduceIte, List.length_cons, List.length_nil, Nat.add_assoc, binP, ne_eq, not_true_eq_false, map_some, decide_eq_true_eq, decide_true, decide_false, ZA, ofCells, Bool.false_eq_true, Int.toNat_natCast, and_true, true_and, Bool.not_true, Bool.not_false, Option.map_none, List.map_cons, List.map_nil, Z0B_, eq_self_iff_true, Bool.true_eq_false, Z0C_, Z0D_, Z0E_, Z0F_, Z0G_, Z0H_, Z0I_, Z0J_, Z0K_, Z0L_, Z0M_, Z0N_, Z0O_, Z0P_, Z0Q_, Z0R_, Z0S_, Z0T_, Z0U_, Z0V_, Z0W_, Z0X_, Z0Y_, Z0Z_, Z10_, Z11_, Z12_, Z13_, Z14_, Z15_, Z16_, Z17_, Z18_, Z19_, Z1a_, Z1b_, Z1c_, Z1d_, Z1e_, Z1f_, Z1g_, List.take_succ_cons, List.take_zero, List.drop_succ_cons, List.drop_zero, List.cons_append, List.nil_append, List.append_nil, List.all_cons, List.all_nil, Bool.and_self, Bool.and_true, Bool.true_and, Nat.zero_add, Nat.add_zero, Nat.reduceLeDiff, Nat.le_refl, List.getElem?_cons_zero, List.getElem?_cons_succ, Nat.add_left_cancel_iff, Nat.left_eq_add, Nat.add_eq_left, not_false_eq_true, Z1h_, Z1i_, Z1j_, Z1k_, g0, hln, e0, aw]
    refine ⟨nofun, _, rfl, ?_⟩
    simp only [tupV, ↓Z0, ↓Z1, ↓Z2, ↓Z3, ↓Z4, ↓Z5, ↓Z6, ↓Z7, ↓Zb, ↓Zc, ↓Ze, ↓Zf, ↓Zg, ↓Zh, ↓Zi, ↓Zm, ↓Zn, ↓Zj, ↓Zq, ↓Zr, ↓Zx, ↓Zy, ↓Zz, ↓ZA, ↓ZB, ↓ZC, ↓ZD, ↓ZE, ↓ZF, ↓ZG, ↓ZH, ↓ZI, ↓ZJ, ↓ZK, ↓ZL, ↓ZM, ↓ZN, ↓ZO, ↓ZP, ↓ZQ, ↓ZR, ↓ZS, ↓ZT, ↓ZU, ↓ZV, ↓ZW, ↓ZX, ↓ZY, ↓ZZ, ↓Z00_, ↓Z01_, ↓Z02_, ↓Z03_, ↓Z04_, ↓Z05_, ↓Z06_, ↓Z07_, ↓Z08_, ↓Z09_, ↓Z0a_, ↓Z0b_, ↓Z0c_, ↓Z0d_, ↓Z0e_, ↓Z0f_, ↓Z0g_, ↓Z0h_, ↓Z0i_, ↓Z0j_, ↓Z0k_, ↓Z0l_, ↓Z0m_, ↓Z0n_, Z1, Z7, Zb, Zc, Ze, Zf, Zg, Zh, Zi, Zm, Zn, Zo, Zj, Zq, Zr, Zx, Zz, Z0p_, Z0q_, Z0r_, Z0s_, Z0t_, Z0u_, Z0v_, Z0w_, Z0x_, Z0y_, Z0z_, Z0A_, Env.get_put, Env.get_leaf, Nat.reduceAdd, Nat.reduceMul, Nat.reduceLT, Nat.reduceEqDiff, reduceIte, List.length_cons, List.length_nil, Nat.add_assoc, binP, ne_eq, not_true_eq_false, map_some, decide_eq_true_eq, decide_true, decide_false, ZA, ofCells, Bool.false_eq_true, Int.toNat_natCast, and_true, true_and, Bool.not_true, Bool.not_false, Option.map_none, List.map_cons, List.map_nil, Z0B_, eq_self_iff_true, Bool.true_eq_false]
  have hlp : 0 < l.length := List.length_pos_iff.2 z0
  have e0 : ((l.length : Int) == Int.ofNat 0) = false := by simp; omega
  by_cases z1 : 100 < l.length
  · have e1 : (l.length : Int) > Int.ofNat 100 := by show (l.length : Int) > 100; omega
    simp only [↓Z0, ↓Z1, ↓Z2, ↓Z3, ↓Z4, ↓Z5, ↓Z6, ↓Z7, ↓Zb, ↓Zc, ↓Ze, ↓Zf, ↓Zg, ↓Zh, ↓Zi, ↓Zm, ↓Zn, ↓Zj, ↓Zq, ↓Zr, ↓Zx, ↓Zy, ↓Zz, ↓ZA, ↓ZB, ↓ZC, ↓ZD, ↓ZE, ↓ZF, ↓ZG, ↓ZH, ↓ZI, ↓ZJ, ↓ZK, ↓ZL, ↓ZM, ↓ZN, ↓ZO, ↓ZP, ↓ZQ, ↓ZR, ↓ZS, ↓ZT, ↓ZU, ↓ZV, ↓ZW, ↓ZX, ↓ZY, ↓ZZ, ↓Z00_, ↓Z01_, ↓Z02_, ↓Z03_, ↓Z04_, ↓Z05_, ↓Z06_, ↓Z07_, ↓Z08_, ↓Z09_, ↓Z0a_, ↓Z0b_, ↓Z0c_, ↓Z0d_, ↓Z0e_, ↓Z0f_, ↓Z0g_, ↓Z0h_, ↓Z0i_, ↓Z0j_, ↓Z0k_, ↓Z0l_, ↓Z0m_, ↓Z0n_, Z1, Z7, Zb, Zc, Ze, Zf, Zg, Zh, Zi, Zm, Zn, Zo, Zj, Zq, Zr, Zx, Zz, Z0p_, Z0q_, Z0r_, Z0s_, Z0t_, Z0u_, Z0v_, Z0w_, Z0x_, Z0y_, Z0z_, Z0A_, Env.get_put, Env.get_leaf, Nat.reduceAdd, Nat.reduceMul, Nat.reduceLT, Nat.reduceEqDiff, reduceIte, List.length_cons, List.length_nil, Nat.add_assoc, binP, ne_eq, not_true_eq_false, map_some, decide_eq_true_eq, decide_true, decide_false, ZA, ofCells, Bool.false_eq_true, Int.toNat_natCast, and_true, true_and, Bool.not_true, Bool.not_false, Option.map_none, List.map_cons, List.map_nil, Z0B_, eq_self_iff_true, Bool.true_eq_false, Z0C_, Z0D_, Z0E_, Z0F_, Z0G_, Z0H_, Z0I_, Z0J_, Z0K_, Z0L_, Z0M_, Z0N_, Z0O_, Z0P_, Z0Q_, Z0R_, Z0S_, Z0T_, Z0U_, Z0V_, Z0W_, Z0X_, Z0Y_, Z0Z_, Z10_, Z11_, Z12_, Z13_, Z14_, Z15_, Z16_, Z17_, Z18_, Z19_, Z1a_, Z1b_, Z1c_, Z1d_, Z1e_, Z1f_, Z1g_, List.take_succ_cons, List.take_zero, List.drop_succ_cons, List.drop_zero, List.cons_append, List.nil_append, List.append_nil, List.all_cons, List.all_nil, Bool.and_self, Bool.and_true, Bool.true_and, Nat.zero_add, Nat.add_zero, Nat.reduceLeDiff, Nat.le_refl, List.getElem?_cons_zero, List.getElem?_cons_succ, Nat.add_left_cancel_iff, Nat.left_eq_add, Nat.add_eq_left, not_false_eq_true, Z1h_, Z1i_, Z1j_, Z1k_, g0, hln, e0, e1, aw]
    refine ⟨nofun, _, rfl, ?_⟩
    simp only [tupV, ↓Z0, ↓Z1, ↓Z2, ↓Z3, ↓Z4, ↓Z5, ↓Z6, ↓Z7, ↓Zb, ↓Zc, ↓Ze, ↓Zf, ↓Zg, ↓Zh, ↓Zi, ↓Zm, ↓Zn, ↓Zj, ↓Zq, ↓Zr, ↓Zx, ↓Zy, ↓Zz, ↓ZA, ↓ZB, ↓ZC, ↓ZD, ↓ZE, ↓ZF, ↓ZG, ↓ZH, ↓ZI, ↓ZJ, ↓ZK, ↓ZL, ↓ZM, ↓ZN, ↓ZO, ↓ZP, ↓ZQ, ↓ZR, ↓ZS, ↓ZT, ↓ZU, ↓ZV, ↓ZW, ↓ZX, ↓ZY, ↓ZZ, ↓Z00_, ↓Z01_, ↓Z02_, ↓Z03_, ↓Z04_, ↓Z05_, ↓Z06_, ↓Z07_, ↓Z08_, ↓Z09_, ↓Z0a_, ↓Z0b_, ↓Z0c_, ↓Z0d_, ↓Z0e_, ↓Z0f_, ↓Z0g_, ↓Z0h_, ↓Z0i_, ↓Z0j_, ↓Z0k_, ↓Z0l_, ↓Z0m_, ↓Z0n_, Z1, Z7, Zb, Zc, Ze, Zf, Zg, Zh, Zi, Zm, Zn, Zo, Zj, Zq, Zr, Zx, Zz, Z0p_, Z0q_, Z0r_, Z0s_, Z0t_, Z0u_, Z0v_, Z0w_, Z0x_, Z0y_, Z0z_, Z0A_, Env.get_put, Env.get_leaf, Nat.reduceAdd, Nat.reduceMul, Nat.reduceLT, Nat.reduceEqDiff, reduceIte, List.length_cons, List.length_nil, Nat.add_assoc, binP, ne_eq, not_true_eq_false, map_some, decide_eq_true_eq, decide_true, decide_false, ZA, ofCells, Bool.false_eq_true, Int.toNat_natCast, and_true, true_and, Bool.not_true, Bool.not_false, Option.map_none, List.map_cons, List.map_nil, Z0B_, eq_self_iff_true, Bool.true_eq_false]
  have e1 : ¬ (l.length : Int) > Int.ofNat 100 := by show ¬ (l.length : Int) > 100; omega
  have hl4 : l.length ≤ 4096 := by omega
  have hB6 := bodyL_ge z0
  have hBl := bodyL_le hl4
  have hFl := frameL_len l
  have hV := varint_le (bodyL l).length
  have hV1 := varint_pos (bodyL l).length
  have hfb := @frame_bytes l hl4
  have hturn := @readL_turned l hl4
  have hread := readL_frame (l := l) (by omega) hl4 hE (b := frameL l) (rest := []) (a := 0) (by simp) (Nat.zero_le _)
  have hfr := fun st key => k_frame (callE := evFn cfgK7 10) (st := st) (key := key) (deep_1 (deep_fsl st l.length (evsC l))) z0 hl4
  generalize frameL l = F at *
  generalize hVd : (varint (bodyL l).length).length = V at *
  generalize hBd : (bodyL l).length = B at *
  refine Za (fun x => x.env.get 0 = .fsl l.length (evsC l) ∧ x.env.get 1 = .i .i64 at0 ∧ x.env.get 5 = .ptr 1 0 ∧ x.st.get 1 = some (.cells (ofBytes t) false) ∧ x.st.cnt = 81) ?_ ?_
  · simp only [↓Z0, ↓Z1, ↓Z2, ↓Z3, ↓Z4, ↓Z5, ↓Z6, ↓Z7, ↓Zb, ↓Zc, ↓Ze, ↓Zf, ↓Zg, ↓Zh, ↓Zi, ↓Zm, ↓Zn, ↓Zj, ↓Zq, ↓Zr, ↓Zx, ↓Zy, ↓Zz, ↓ZA, ↓ZB, ↓ZC, ↓ZD, ↓ZE, ↓ZF, ↓ZG, ↓ZH, ↓ZI, ↓ZJ, ↓ZK, ↓ZL, ↓ZM, ↓ZN, ↓ZO, ↓ZP, ↓ZQ, ↓ZR, ↓ZS, ↓ZT, ↓ZU, ↓ZV, ↓ZW, ↓ZX, ↓ZY, ↓ZZ, ↓Z00_, ↓Z01_, ↓Z02_, ↓Z03_, ↓Z04_, ↓Z05_, ↓Z06_, ↓Z07_, ↓Z08_, ↓Z09_, ↓Z0a_, ↓Z0b_, ↓Z0c_, ↓Z0d_, ↓Z0e_, ↓Z0f_, ↓Z0g_, ↓Z0h_, ↓Z0i_, ↓Z0j_, ↓Z0k_, ↓Z0l_, ↓Z0m_, ↓Z0n_, Z1, Z7, Zb, Zc, Ze, Zf, Zg, Zh, Zi, Zm, Zn, Zo, Zj, Zq, Zr, Zx, Zz, Z0p_, Z0q_, Z0r_, Z0s_, Z0t_, Z0u_, Z0v_, Z0w_, Z0x_, Z0y_, Z0z_, Z0A_, Env.get_put, Env.get_leaf, Nat.reduceAdd, Nat.reduceMul, Nat.reduceLT, Nat.reduceEqDiff, reduceIte, List.length_cons, List.length_nil, Nat.add_assoc, binP, ne_eq, not_true_eq_false, map_some, decide_eq_true_eq, decide_true, decide_false, ZA, ofCells, Bool.false_eq_true, Int.toNat_natCast, and_true, true_and, Bool.not_true, Bool.not_false, Option.map_none, List.map_cons, List.map_nil, Z0B_, eq_self_iff_true, Bool.true_eq_false, Z0C_, Z0D_, Z0E_, Z0F_, Z0G_, Z0H_, Z0I_, Z0J_, Z0K_, Z0L_, Z0M_, Z0N_, Z0O_, Z0P_, Z0Q_, Z0R_, Z0S_, Z0T_, Z0U_, Z0V_, Z0W_, Z0X_, Z0Y_, Z0Z_, Z10_, Z11_, Z12_, Z13_, Z14_, Z15_, Z16_, Z17_, Z18_, Z19_, Z1a_, Z1b_, Z1c_, Z1d_, Z1e_, Z1f_, Z1g_, List.take_succ_cons, List.take_zero, List.drop_succ_cons, List.drop_zero, List.cons_append, List.nil_append, List.append_nil, List.all_cons, List.all_nil, Bool.and_self, Bool.and_true, Bool.true_and, Nat.zero_add, Nat.add_zero, Nat.reduceLeDiff, Nat.le_refl, List.getElem?_cons_zero, List.getElem?_cons_succ, Nat.add_left_cancel_iff, Nat.left_eq_add, Nat.add_eq_left, not_false_eq_true, Z1h_, Z1i_, Z1j_, Z1k_, g0, hln, e0, e1]
    (repeat' (first | exact True.intro | rfl | assumption | omega | apply And.intro))
  clear g0 g1 g5 k1
  rintro ⟨env, ⟨sto, c⟩⟩ ⟨g0, g1, g5, k1, hc⟩
  simp only at g0 g1 g5 k1 hc
  subst hc
  refine Za (fun x => x.env.get 0 = .fsl l.length (evsC l) ∧ x.env.get 1 = .i .i64 at0 ∧ x.env.get 5 = .ptr 1 0 ∧ x.env.get 7 = .rsl 89 1 0 F.length ∧ x.env.get 8 = .i .i64 0 ∧ x.st.get 1 = some (.cells (ofBytes t) false) ∧ x.st.get 89 = some (.cells (ofBytes F) false) ∧ x.st.cnt = 137) ?_ ?_
  · have k1' : ∀ n, St.get ⟨sto, n⟩ 1 = some (.cells (ofBytes t) false) := fun _ => k1
    simp only [↓Z0, ↓Z1, ↓Z2, ↓Z3, ↓Z4, ↓Z5, ↓Z6, ↓Z7, ↓Zb, ↓Zc, ↓Ze, ↓Zf, ↓Zg, ↓Zh, ↓Zi, ↓Zm, ↓Zn, ↓Zj, ↓Zq, ↓Zr, ↓Zx, ↓Zy, ↓Zz, ↓ZA, ↓ZB, ↓ZC, ↓ZD, ↓ZE, ↓ZF, ↓ZG, ↓ZH, ↓ZI, ↓ZJ, ↓ZK, ↓ZL, ↓ZM, ↓ZN, ↓ZO, ↓ZP, ↓ZQ, ↓ZR, ↓ZS, ↓ZT, ↓ZU, ↓ZV, ↓ZW, ↓ZX, ↓ZY, ↓ZZ, ↓Z00_, ↓Z01_, ↓Z02_, ↓Z03_, ↓Z04_, ↓Z05_, ↓Z06_, ↓Z07_, ↓Z08_, ↓Z09_, ↓Z0a_, ↓Z0b_, ↓Z0c_, ↓Z0d_, ↓Z0e_, ↓Z0f_, ↓Z0g_, ↓Z0h_, ↓Z0i_, ↓Z0j_, ↓Z0k_, ↓Z0l_, ↓Z0m_, ↓Z0n_, Z1, Z7, Zb, Zc, Ze, Zf, Zg, Zh, Zi, Zm, Zn, Zo, Zj, Zq, Zr, Zx, Zz, Z0p_, Z0q_, Z0r_, Z0s_, Z0t_, Z0u_, Z0v_, Z0w_, Z0x_, Z0y_, Z0z_, Z0A_, Env.get_put, Env.get_leaf, Nat.reduceAdd, Nat.reduceMul, Nat.reduceLT, Nat.reduceEqDiff, reduceIte, List.length_cons, List.length_nil, Nat.add_assoc, binP, ne_eq, not_true_eq_false, map_some, decide_eq_true_eq, decide_true, decide_false, ZA, ofCells, Bool.false_eq_true, Int.toNat_natCast, and_true, true_and, Bool.not_true, Bool.not_false, Option.map_none, List.map_cons, List.map_nil, Z0B_, eq_self_iff_true, Bool.true_eq_false, Z0C_, Z0D_, Z0E_, Z0F_, Z0G_, Z0H_, Z0I_, Z0J_, Z0K_, Z0L_, Z0M_, Z0N_, Z0O_, Z0P_, Z0Q_, Z0R_, Z0S_, Z0T_, Z0U_, Z0V_, Z0W_, Z0X_, Z0Y_, Z0Z_, Z10_, Z11_, Z12_, Z13_, Z14_, Z15_, Z16_, Z17_, Z18_, Z19_, Z1a_, Z1b_, Z1c_, Z1d_, Z1e_, Z1f_, Z1g_, List.take_succ_cons, List.take_zero, List.drop_succ_cons, List.drop_zero, List.cons_append, List.nil_append, List.append_nil, List.all_cons, List.all_nil, Bool.and_self, Bool.and_true, Bool.true_and, Nat.zero_add, Nat.add_zero, Nat.reduceLeDiff, Nat.le_refl, List.getElem?_cons_zero, List.getElem?_cons_succ, Nat.add_left_cancel_iff, Nat.left_eq_add, Nat.add_eq_left, not_false_eq_true, Z1h_, Z1i_, Z1j_, Z1k_, g0, hfr, k1']
    (repeat' (first | exact True.intro | rfl | assumption | omega | apply And.intro))
  clear g0 g1 g5 k1
  rintro ⟨env, ⟨sto, c⟩⟩ ⟨g0, g1, g5, g7, g8, k1, kF, hc⟩
  simp only at g0 g1 g5 g7 g8 k1 kF hc
  subst hc
  refine Za (fun x => x.env.get 0 = .fsl l.length (evsC l) ∧ x.env.get 1 = .i .i64 at0 ∧ x.env.get 5 = .ptr 1 0 ∧ x.env.get 7 = .rsl 89 1 0 F.length ∧ x.st.get 1 = some (.cells (ofBytes t) false) ∧ x.st.get 89 = some (.cells (ofBytes F) false)) ?_ ?_
  · have e2 : ((0 : Int) != Int.ofNat 0) = false := rfl
    have e3 : ¬ (F.length : Int) < Int.ofNat 7 := by show ¬ (F.length : Int) < 7; omega
    simp only [↓Z0, ↓Z1, ↓Z2, ↓Z3, ↓Z4, ↓Z5, ↓Z6, ↓Z7, ↓Zb, ↓Zc, ↓Ze, ↓Zf, ↓Zg, ↓Zh, ↓Zi, ↓Zm, ↓Zn, ↓Zj, ↓Zq, ↓Zr, ↓Zx, ↓Zy, ↓Zz, ↓ZA, ↓ZB, ↓ZC, ↓ZD, ↓ZE, ↓ZF, ↓ZG, ↓ZH, ↓ZI, ↓ZJ, ↓ZK, ↓ZL, ↓ZM, ↓ZN, ↓ZO, ↓ZP, ↓ZQ, ↓ZR, ↓ZS, ↓ZT, ↓ZU, ↓ZV, ↓ZW, ↓ZX, ↓ZY, ↓ZZ, ↓Z00_, ↓Z01_, ↓Z02_, ↓Z03_, ↓Z04_, ↓Z05_, ↓Z06_, ↓Z07_, ↓Z08_, ↓Z09_, ↓Z0a_, ↓Z0b_, ↓Z0c_, ↓Z0d_, ↓Z0e_, ↓Z0f_, ↓Z0g_, ↓Z0h_, ↓Z0i_, ↓Z0j_, ↓Z0k_, ↓Z0l_, ↓Z0m_, ↓Z0n_, Z1, Z7, Zb, Zc, Ze, Zf, Zg, Zh, Zi, Zm, Zn, Zo, Zj, Zq, Zr, Zx, Zz, Z0p_, Z0q_, Z0r_, Z0s_, Z0t_, Z0u_, Z0v_, Z0w_, Z0x_, Z0y_, Z0z_, Z0A_, Env.get_put, Env.get_leaf, Nat.reduceAdd, Nat.reduceMul, Nat.reduceLT, Nat.reduceEqDiff, reduceIte, List.length_cons, List.length_nil, Nat.add_assoc, binP, ne_eq, not_true_eq_false, map_some, decide_eq_true_eq, decide_true, decide_false, ZA, ofCells, Bool.false_eq_true, Int.toNat_natCast, and_true, true_and, Bool.not_true, Bool.not_false, Option.map_none, List.map_cons, List.map_nil, Z0B_, eq_self_iff_true, Bool.true_eq_false, Z0C_, Z0D_, Z0E_, Z0F_, Z0G_, Z0H_, Z0I_, Z0J_, Z0K_, Z0L_, Z0M_, Z0N_, Z0O_, Z0P_, Z0Q_, Z0R_, Z0S_, Z0T_, Z0U_, Z0V_, Z0W_, Z0X_, Z0Y_, Z0Z_, Z10_, Z11_, Z12_, Z13_, Z14_, Z15_, Z16_, Z17_, Z18_, Z19_, Z1a_, Z1b_, Z1c_, Z1d_, Z1e_, Z1f_, Z1g_, List.take_succ_cons, List.take_zero, List.drop_succ_cons, List.drop_zero, List.cons_append, List.nil_append, List.append_nil, List.all_cons, List.all_nil, Bool.and_self, Bool.and_true, Bool.true_and, Nat.zero_add, Nat.add_zero, Nat.reduceLeDiff, Nat.le_refl, List.getElem?_cons_zero, List.getElem?_cons_succ, Nat.add_left_cancel_iff, Nat.left_eq_add, Nat.add_eq_left, not_false_eq_true, Z1h_, Z1i_, Z1j_, Z1k_, g0, g7, g8, hlr, e2, e3]
    (repeat' (first | exact True.intro | rfl | assumption | omega | apply And.intro))
  clear g0 g1 g5 g7 g8 k1 kF hfr
  rintro ⟨env, ⟨sto, c⟩⟩ ⟨g0, g1, g5, g7, k1, kF⟩
  simp only at g0 g1 g5 g7 k1 kF
  refine Za (fun x => x.env.get 0 = .fsl l.length (evsC l) ∧ x.env.get 1 = .i .i64 at0 ∧ x.env.get 5 = .ptr 1 0 ∧ x.env.get 7 = .rsl 89 1 0 F.length ∧ x.env.get 9 = .i .i64 (Int.ofNat 1) ∧ x.st.get 1 = some (.cells (ofBytes t) false) ∧ x.st.get 89 = some (.cells (ofBytes F) false)) ?_ ?_
  · simp only [↓Z0, ↓Z1, ↓Z2, ↓Z3, ↓Z4, ↓Z5, ↓Z6, ↓Z7, ↓Zb, ↓Zc, ↓Ze, ↓Zf, ↓Zg, ↓Zh, ↓Zi, ↓Zm, ↓Zn, ↓Zj, ↓Zq, ↓Zr, ↓Zx, ↓Zy, ↓Zz, ↓ZA, ↓ZB, ↓ZC, ↓ZD, ↓ZE, ↓ZF, ↓ZG, ↓ZH, ↓ZI, ↓ZJ, ↓ZK, ↓ZL, ↓ZM, ↓ZN, ↓ZO, ↓ZP, ↓ZQ, ↓ZR, ↓ZS, ↓ZT, ↓ZU, ↓ZV, ↓ZW, ↓ZX, ↓ZY, ↓ZZ, ↓Z00_, ↓Z01_, ↓Z02_, ↓Z03_, ↓Z04_, ↓Z05_, ↓Z06_, ↓Z07_, ↓Z08_, ↓Z09_, ↓Z0a_, ↓Z0b_, ↓Z0c_, ↓Z0d_, ↓Z0e_, ↓Z0f_, ↓Z0g_, ↓Z0h_, ↓Z0i_, ↓Z0j_, ↓Z0k_, ↓Z0l_, ↓Z0m_, ↓Z0n_, Z1, Z7, Zb, Zc, Ze, Zf, Zg, Zh, Zi, Zm, Zn, Zo, Zj, Zq, Zr, Zx, Zz, Z0p_, Z0q_, Z0r_, Z0s_, Z0t_, Z0u_, Z0v_, Z0w_, Z0x_, Z0y_, Z0z_, Z0A_, Env.get_put, Env.get_leaf, Nat.reduceAdd, Nat.reduceMul, Nat.reduceLT, Nat.reduceEqDiff, reduceIte, List.length_cons, List.length_nil, Nat.add_assoc, binP, ne_eq, not_true_eq_false, map_some, decide_eq_true_eq, decide_true, decide_false, ZA, ofCells, Bool.false_eq_true, Int.toNat_natCast, and_true, true_and, Bool.not_true, Bool.not_false, Option.map_none, List.map_cons, List.map_nil, Z0B_, eq_self_iff_true, Bool.true_eq_false, Z0C_, Z0D_, Z0E_, Z0F_, Z0G_, Z0H_, Z0I_, Z0J_, Z0K_, Z0L_, Z0M_, Z0N_, Z0O_, Z0P_, Z0Q_, Z0R_, Z0S_, Z0T_, Z0U_, Z0V_, Z0W_, Z0X_, Z0Y_, Z0Z_, Z10_, Z11_, Z12_, Z13_, Z14_, Z15_, Z16_, Z17_, Z18_, Z19_, Z1a_, Z1b_, Z1c_, Z1d_, Z1e_, Z1f_, Z1g_, List.take_succ_cons, List.take_zero, List.drop_succ_cons, List.drop_zero, List.cons_append, List.nil_append, List.append_nil, List.all_cons, List.all_nil, Bool.and_self, Bool.and_true, Bool.true_and, Nat.zero_add, Nat.add_zero, Nat.reduceLeDiff, Nat.le_refl, List.getElem?_cons_zero, List.getElem?_cons_succ, Nat.add_left_cancel_iff, Nat.left_eq_add, Nat.add_eq_left, not_false_eq_true, Z1h_, Z1i_, Z1j_, Z1k_]
    (repeat' (first | exact True.intro | rfl | assumption | omega | apply And.intro))
  clear g0 g1 g5 g7 k1 kF
  rintro ⟨env, ⟨sto, c⟩⟩ ⟨g0, g1, g5, g7, g9, k1, kF⟩
  simp only at g0 g1 g5 g7 g9 k1 kF
  -- where the body begins
  refine Za (fun x => x.env.get 0 = .fsl l.length (evsC l) ∧ x.env.get 1 = .i .i64 at0 ∧ x.env.get 5 = .ptr 1 0 ∧ x.env.get 7 = .rsl 89 1 0 F.length ∧ x.env.get 9 = .i .i64 (V : Int) ∧ x.st.get 1 = some (.cells (ofBytes t) false) ∧ x.st.get 89 = some (.cells (ofBytes F) false)) ?_ ?_
  · simp only [↓Z0, ↓Z1, ↓Z2, ↓Z3, ↓Z4, ↓Z5, ↓Z6, ↓Z7, ↓Zb, ↓Zc, ↓Ze, ↓Zf, ↓Zg, ↓Zh, ↓Zi, ↓Zm, ↓Zn, ↓Zj, ↓Zq, ↓Zr, ↓Zx, ↓Zy, ↓Zz, ↓ZA, ↓ZB, ↓ZC, ↓ZD, ↓ZE, ↓ZF, ↓ZG, ↓ZH, ↓ZI, ↓ZJ, ↓ZK, ↓ZL, ↓ZM, ↓ZN, ↓ZO, ↓ZP, ↓ZQ, ↓ZR, ↓ZS, ↓ZT, ↓ZU, ↓ZV, ↓ZW, ↓ZX, ↓ZY, ↓ZZ, ↓Z00_, ↓Z01_, ↓Z02_, ↓Z03_, ↓Z04_, ↓Z05_, ↓Z06_, ↓Z07_, ↓Z08_, ↓Z09_, ↓Z0a_, ↓Z0b_, ↓Z0c_, ↓Z0d_, ↓Z0e_, ↓Z0f_, ↓Z0g_, ↓Z0h_, ↓Z0i_, ↓Z0j_, ↓Z0k_, ↓Z0l_, ↓Z0m_, ↓Z0n_, Z1, Z7, Zb, Zc, Ze, Zf, Zg, Zh, Zi, Zm, Zn, Zo, Zj, Zq, Zr, Zx, Zz, Z0p_, Z0q_, Z0r_, Z0s_, Z0t_, Z0u_, Z0v_, Z0w_, Z0x_, Z0y_, Z0z_, Z0A_, Env.get_put, Env.get_leaf, Nat.reduceAdd, Nat.reduceMul, Nat.reduceLT, Nat.reduceEqDiff, reduceIte, List.length_cons, List.length_nil, Nat.add_assoc, binP, ne_eq, not_true_eq_false, map_some, decide_eq_true_eq, decide_true, decide_false, ZA, ofCells, Bool.false_eq_true, Int.toNat_natCast, and_true, true_and, Bool.not_true, Bool.not_false, Option.map_none, List.map_cons, List.map_nil, Z0B_, eq_self_iff_true, Bool.true_eq_false]
    refine Z9 (k := V - 1) (fun d x => ∃ i : Nat, 1 ≤ i ∧ i ≤ V ∧ d = V - i ∧ x.env.get 0 = .fsl l.length (evsC l) ∧ x.env.get 1 = .i .i64 at0 ∧ x.env.get 5 = .ptr 1 0 ∧ x.env.get 7 = .rsl 89 1 0 F.length ∧ x.env.get 9 = .i .i64 (i : Int) ∧ x.st.get 1 = some (.cells (ofBytes t) false) ∧ x.st.get 89 = some (.cells (ofBytes F) false)) ?_ ⟨1, Nat.le_refl _, hV1, rfl, g0, g1, g5, g7, g9, k1, kF⟩ (by omega)
    clear g0 g1 g5 g7 g9 k1 kF
    rintro d ⟨env, ⟨sto, c⟩⟩ ⟨i, hi1, hi, rfl, g0, g1, g5, g7, g9, k1, kF⟩
    simp only at g0 g1 g5 g7 g9 k1 kF
    obtain ⟨j, rfl⟩ : ∃ j, i = j + 1 := ⟨i - 1, by omega⟩
    have hwi : IntKind.i64.wrap (((j + 1 : Nat) : Int) - Int.ofNat 1) = (j : Int) := by
      rw [wr_i64 _ ⟨by show _ ≤ ((j + 1 : Nat) : Int) - 1; omega, by show ((j + 1 : Nat) : Int) - 1 < _; omega⟩]
      show ((j + 1 : Nat) : Int) - 1 = _
      omega
    have hwj : IntKind.i64.wrap (((j + 1 : Nat) : Int) + Int.ofNat 1) = ((j + 1 + 1 : Nat) : Int) := by
      rw [wr_i64 _ ⟨by show _ ≤ ((j + 1 : Nat) : Int) + 1; omega, by show ((j + 1 : Nat) : Int) + 1 < _; omega⟩]
      rfl
    have hj1 : 0 ≤ (j : Int) := by omega
    have hj2 : (j : Int) < (F.length : Int) := by omega
    have hld := fun n => load_byte (st := ⟨sto, n⟩) kF (i := j) (by omega)
    have hb := hfb (i := j) (by omega)
    have hbt := (F.getD j 0).toNat_lt
    by_cases hlast : j + 1 < V
    · have eb : ((F.getD j 0).toNat : Int) ≥ Int.ofNat 128 := by show ((F.getD j 0).toNat : Int) ≥ 128; omega
      simp only [↓Z0, ↓Z1, ↓Z2, ↓Z3, ↓Z4, ↓Z5, ↓Z6, ↓Z7, ↓Zb, ↓Zc, ↓Ze, ↓Zf, ↓Zg, ↓Zh, ↓Zi, ↓Zm, ↓Zn, ↓Zj, ↓Zq, ↓Zr, ↓Zx, ↓Zy, ↓Zz, ↓ZA, ↓ZB, ↓ZC, ↓ZD, ↓ZE, ↓ZF, ↓ZG, ↓ZH, ↓ZI, ↓ZJ, ↓ZK, ↓ZL, ↓ZM, ↓ZN, ↓ZO, ↓ZP, ↓ZQ, ↓ZR, ↓ZS, ↓ZT, ↓ZU, ↓ZV, ↓ZW, ↓ZX, ↓ZY, ↓ZZ, ↓Z00_, ↓Z01_, ↓Z02_, ↓Z03_, ↓Z04_, ↓Z05_, ↓Z06_, ↓Z07_, ↓Z08_, ↓Z09_, ↓Z0a_, ↓Z0b_, ↓Z0c_, ↓Z0d_, ↓Z0e_, ↓Z0f_, ↓Z0g_, ↓Z0h_, ↓Z0i_, ↓Z0j_, ↓Z0k_, ↓Z0l_, ↓Z0m_, ↓Z0n_, Z1, Z7, Zb, Zc, Ze, Zf, Zg, Zh, Zi, Zm, Zn, Zo, Zj, Zq, Zr, Zx, Zz, Z0p_, Z0q_, Z0r_, Z0s_, Z0t_, Z0u_, Z0v_, Z0w_, Z0x_, Z0y_, Z0z_, Z0A_, Env.get_put, Env.get_leaf, Nat.reduceAdd, Nat.reduceMul, Nat.reduceLT, Nat.reduceEqDiff, reduceIte, List.length_cons, List.length_nil, Nat.add_assoc, binP, ne_eq, not_true_eq_false, map_some, decide_eq_true_eq, decide_true, decide_false, ZA, ofCells, Bool.false_eq_true, Int.toNat_natCast, and_true, true_and, Bool.not_true, Bool.not_false, Option.map_none, List.map_cons, List.map_nil, Z0B_, eq_self_iff_true, Bool.true_eq_false, g0, g1, g5, g7, g9, hwi, hj1, hj2, hld, eb, hwj]
      refine ⟨V - (j + 1 + 1), by omega, j + 1 + 1, ?_⟩
      have k1' : ∀ n, St.get ⟨sto, n⟩ 1 = some (.cells (ofBytes t) false) := fun _ => k1
      have kF' : ∀ n, St.get ⟨sto, n⟩ 89 = some (.cells (ofBytes F) false) := fun _ => kF
      simp only [k1', kF']
      (repeat' (first | exact True.intro | rfl | assumption | omega | apply And.intro))
    · have eb : ¬ ((F.getD j 0).toNat : Int) ≥ Int.ofNat 128 := by show ¬ ((F.getD j 0).toNat : Int) ≥ 128; omega
      have hjV : j + 1 = V := by omega
      have k1' : ∀ n, St.get ⟨sto, n⟩ 1 = some (.cells (ofBytes t) false) := fun _ => k1
      have kF' : ∀ n, St.get ⟨sto, n⟩ 89 = some (.cells (ofBytes F) false) := fun _ => kF
      rw [hjV] at g9
      rw [hjV] at hwi
      simp only [↓Z0, ↓Z1, ↓Z2, ↓Z3, ↓Z4, ↓Z5, ↓Z6, ↓Z7, ↓Zb, ↓Zc, ↓Ze, ↓Zf, ↓Zg, ↓Zh, ↓Zi, ↓Zm, ↓Zn, ↓Zj, ↓Zq, ↓Zr, ↓Zx, ↓Zy, ↓Zz, ↓ZA, ↓ZB, ↓ZC, ↓ZD, ↓ZE, ↓ZF, ↓ZG, ↓ZH, ↓ZI, ↓ZJ, ↓ZK, ↓ZL, ↓ZM, ↓ZN, ↓ZO, ↓ZP, ↓ZQ, ↓ZR, ↓ZS, ↓ZT, ↓ZU, ↓ZV, ↓ZW, ↓ZX, ↓ZY, ↓ZZ, ↓Z00_, ↓Z01_, ↓Z02_, ↓Z03_, ↓Z04_, ↓Z05_, ↓Z06_, ↓Z07_, ↓Z08_, ↓Z09_, ↓Z0a_, ↓Z0b_, ↓Z0c_, ↓Z0d_, ↓Z0e_, ↓Z0f_, ↓Z0g_, ↓Z0h_, ↓Z0i_, ↓Z0j_, ↓Z0k_, ↓Z0l_, ↓Z0m_, ↓Z0n_, Z1, Z7, Zb, Zc, Ze, Zf, Zg, Zh, Zi, Zm, Zn, Zo, Zj, Zq, Zr, Zx, Zz, Z0p_, Z0q_, Z0r_, Z0s_, Z0t_, Z0u_, Z0v_, Z0w_, Z0x_, Z0y_, Z0z_, Z0A_, Env.get_put, Env.get_leaf, Nat.reduceAdd, Nat.reduceMul, Nat.reduceLT, Nat.reduceEqDiff, reduceIte, List.length_cons, List.length_nil, Nat.add_assoc, binP, ne_eq, not_true_eq_false, map_some, decide_eq_true_eq, decide_true, decide_false, ZA, ofCells, Bool.false_eq_true, Int.toNat_natCast, and_true, true_and, Bool.not_true, Bool.not_false, Option.map_none, List.map_cons, List.map_nil, Z0B_, eq_self_iff_true, Bool.true_eq_false, g0, g1, g5, g7, g9, hwi, hj1, hj2, hld, eb, k1', kF']
      (repeat' (first | exact True.intro | rfl | assumption | omega | apply And.intro))
  clear g0 g1 g5 g7 g9 k1 kF
  rintro ⟨env, ⟨sto, c⟩⟩ ⟨g0, g1, g5, g7, g9, k1, kF⟩
  simp only at g0 g1 g5 g7 g9 k1 kF
  refine Za (fun x => x.env.get 0 = .fsl l.length (evsC l) ∧ x.env.get 1 = .i .i64 at0 ∧ x.env.get 5 = .ptr 1 0 ∧ x.env.get 7 = .rsl 89 1 0 F.length ∧ x.env.get 9 = .i .i64 (V : Int) ∧ x.env.get 10 = .i .i64 (B : Int) ∧ x.st.get 1 = some (.cells (ofBytes t) false) ∧ x.st.get 89 = some (.cells (ofBytes F) false)) ?_ ?_
  · have w1 : IntKind.i64.wrap ((F.length : Int) - Int.ofNat 4) = ((V + B : Nat) : Int) := by
      rw [wr_i64 _ ⟨by show _ ≤ (F.length : Int) - 4; omega, by show (F.length : Int) - 4 < _; omega⟩]
      show (F.length : Int) - 4 = _
      omega
    have w2 : IntKind.i64.wrap (((V + B : Nat) : Int) - (V : Int)) = (B : Int) := by
      rw [wr_i64 _ ⟨by omega, by omega⟩]
      omega
    have k1' : ∀ n, St.get ⟨sto, n⟩ 1 = some (.cells (ofBytes t) false) := fun _ => k1
    have kF' : ∀ n, St.get ⟨sto, n⟩ 89 = some (.cells (ofBytes F) false) := fun _ => kF
    simp only [↓Z0, ↓Z1, ↓Z2, ↓Z3, ↓Z4, ↓Z5, ↓Z6, ↓Z7, ↓Zb, ↓Zc, ↓Ze, ↓Zf, ↓Zg, ↓Zh, ↓Zi, ↓Zm, ↓Zn, ↓Zj, ↓Zq, ↓Zr, ↓Zx, ↓Zy, ↓Zz, ↓ZA, ↓ZB, ↓ZC, ↓ZD, ↓ZE, ↓ZF, ↓ZG, ↓ZH, ↓ZI, ↓ZJ, ↓ZK, ↓ZL, ↓ZM, ↓ZN, ↓ZO, ↓ZP, ↓ZQ, ↓ZR, ↓ZS, ↓ZT, ↓ZU, ↓ZV, ↓ZW, ↓ZX, ↓ZY, ↓ZZ, ↓Z00_, ↓Z01_, ↓Z02_, ↓Z03_, ↓Z04_, ↓Z05_, ↓Z06_, ↓Z07_, ↓Z08_, ↓Z09_, ↓Z0a_, ↓Z0b_, ↓Z0c_, ↓Z0d_, ↓Z0e_, ↓Z0f_, ↓Z0g_, ↓Z0h_, ↓Z0i_, ↓Z0j_, ↓Z0k_, ↓Z0l_, ↓Z0m_, ↓Z0n_, Z1, Z7, Zb, Zc, Ze, Zf, Zg, Zh, Zi, Zm, Zn, Zo, Zj, Zq, Zr, Zx, Zz, Z0p_, Z0q_, Z0r_, Z0s_, Z0t_, Z0u_, Z0v_, Z0w_, Z0x_, Z0y_, Z0z_, Z0A_, Env.get_put, Env.get_leaf, Nat.reduceAdd, Nat.reduceMul, Nat.reduceLT, Nat.reduceEqDiff, reduceIte, List.length_cons, List.length_nil, Nat.add_assoc, binP, ne_eq, not_true_eq_false, map_some, decide_eq_true_eq, decide_true, decide_false, ZA, ofCells, Bool.false_eq_true, Int.toNat_natCast, and_true, true_and, Bool.not_true, Bool.not_false, Option.map_none, List.map_cons, List.map_nil, Z0B_, eq_self_iff_true, Bool.true_eq_false, g0, g1, g5, g7, g9, hlr, w1, w2, k1', kF']
    (repeat' (first | exact True.intro | rfl | assumption | omega | apply And.intro))
  clear g0 g1 g5 g7 g9 k1 kF
  rintro ⟨env, ⟨sto, c⟩⟩ ⟨g0, g1, g5, g7, g9, g10, k1, kF⟩
  simp only at g0 g1 g5 g7 g9 g10 k1 kF
  refine Za (fun x => x.env.get 0 = .fsl l.length (evsC l) ∧ x.env.get 1 = .i .i64 at0 ∧ x.env.get 5 = .ptr 1 0 ∧ x.env.get 7 = .rsl 89 1 0 F.length ∧ x.env.get 9 = .i .i64 (V : Int) ∧ x.env.get 10 = .i .i64 (B : Int) ∧ x.st.get 1 = some (.cells (ofBytes t) false) ∧ x.st.get 89 = some (.cells (ofBytes F) false)) ?_ ?_
  · have e4 : ¬ (B : Int) < Int.ofNat 6 := by show ¬ (B : Int) < 6; omega
    have k1' : ∀ n, St.get ⟨sto, n⟩ 1 = some (.cells (ofBytes t) false) := fun _ => k1
    have kF' : ∀ n, St.get ⟨sto, n⟩ 89 = some (.cells (ofBytes F) false) := fun _ => kF
    simp only [↓Z0, ↓Z1, ↓Z2, ↓Z3, ↓Z4, ↓Z5, ↓Z6, ↓Z7, ↓Zb, ↓Zc, ↓Ze, ↓Zf, ↓Zg, ↓Zh, ↓Zi, ↓Zm, ↓Zn, ↓Zj, ↓Zq, ↓Zr, ↓Zx, ↓Zy, ↓Zz, ↓ZA, ↓ZB, ↓ZC, ↓ZD, ↓ZE, ↓ZF, ↓ZG, ↓ZH, ↓ZI, ↓ZJ, ↓ZK, ↓ZL, ↓ZM, ↓ZN, ↓ZO, ↓ZP, ↓ZQ, ↓ZR, ↓ZS, ↓ZT, ↓ZU, ↓ZV, ↓ZW, ↓ZX, ↓ZY, ↓ZZ, ↓Z00_, ↓Z01_, ↓Z02_, ↓Z03_, ↓Z04_, ↓Z05_, ↓Z06_, ↓Z07_, ↓Z08_, ↓Z09_, ↓Z0a_, ↓Z0b_, ↓Z0c_, ↓Z0d_, ↓Z0e_, ↓Z0f_, ↓Z0g_, ↓Z0h_, ↓Z0i_, ↓Z0j_, ↓Z0k_, ↓Z0l_, ↓Z0m_, ↓Z0n_, Z1, Z7, Zb, Zc, Ze, Zf, Zg, Zh, Zi, Zm, Zn, Zo, Zj, Zq, Zr, Zx, Zz, Z0p_, Z0q_, Z0r_, Z0s_, Z0t_, Z0u_, Z0v_, Z0w_, Z0x_, Z0y_, Z0z_, Z0A_, Env.get_put, Env.get_leaf, Nat.reduceAdd, Nat.reduceMul, Nat.reduceLT, Nat.reduceEqDiff, reduceIte, List.length_cons, List.length_nil, Nat.add_assoc, binP, ne_eq, not_true_eq_false, map_some, decide_eq_true_eq, decide_true, decide_false, ZA, ofCells, Bool.false_eq_true, Int.toNat_natCast, and_true, true_and, Bool.not_true, Bool.not_false, Option.map_none, List.map_cons, List.map_nil, Z0B_, eq_self_iff_true, Bool.true_eq_false, g0, g1, g5, g7, g9, g10, e4, k1', kF']
    (repeat' (first | exact True.intro | rfl | assumption | omega | apply And.intro))
  clear g0 g1 g5 g7 g9 g10 k1 kF
  rintro ⟨env, ⟨sto, c⟩⟩ ⟨g0, g1, g5, g7, g9, g10, k1, kF⟩
  simp only at g0 g1 g5 g7 g9 g10 k1 kF
  have hpk := pick_nonneg (x := at0) (n := (B : Int)) (by omega)
  have hpi := fun st key => k_pick (callE := evFn cfgK7 10) (st := st) (key := key) (x := at0) (n := (B : Int)) hat ⟨by omega, by omega⟩
  obtain ⟨p, hp⟩ : ∃ p : Nat, pickI at0 (B : Int) = (p : Int) := ⟨(pickI at0 (B : Int)).toNat, by omega⟩
  have hpB : p < B := by omega
  refine Za (fun x => x.env.get 0 = .fsl l.length (evsC l) ∧ x.env.get 1 = .i .i64 (p : Int) ∧ x.env.get 5 = .ptr 1 0 ∧ x.env.get 7 = .rsl 89 1 0 F.length ∧ x.env.get 9 = .i .i64 (V : Int) ∧ x.env.get 10 = .i .i64 (B : Int) ∧ x.st.get 1 = some (.cells (ofBytes t) false) ∧ x.st.get 89 = some (.cells (ofBytes F) false)) ?_ ?_
  · have k1' : ∀ n, St.get ⟨sto, n⟩ 1 = some (.cells (ofBytes t) false) := fun _ => k1
    have kF' : ∀ n, St.get ⟨sto, n⟩ 89 = some (.cells (ofBytes F) false) := fun _ => kF
    simp only [↓Z0, ↓Z1, ↓Z2, ↓Z3, ↓Z4, ↓Z5, ↓Z6, ↓Z7, ↓Zb, ↓Zc, ↓Ze, ↓Zf, ↓Zg, ↓Zh, ↓Zi, ↓Zm, ↓Zn, ↓Zj, ↓Zq, ↓Zr, ↓Zx, ↓Zy, ↓Zz, ↓ZA, ↓ZB, ↓ZC, ↓ZD, ↓ZE, ↓ZF, ↓ZG, ↓ZH, ↓ZI, ↓ZJ, ↓ZK, ↓ZL, ↓ZM, ↓ZN, ↓ZO, ↓ZP, ↓ZQ, ↓ZR, ↓ZS, ↓ZT, ↓ZU, ↓ZV, ↓ZW, ↓ZX, ↓ZY, ↓ZZ, ↓Z00_, ↓Z01_, ↓Z02_, ↓Z03_, ↓Z04_, ↓Z05_, ↓Z06_, ↓Z07_, ↓Z08_, ↓Z09_, ↓Z0a_, ↓Z0b_, ↓Z0c_, ↓Z0d_, ↓Z0e_, ↓Z0f_, ↓Z0g_, ↓Z0h_, ↓Z0i_, ↓Z0j_, ↓Z0k_, ↓Z0l_, ↓Z0m_, ↓Z0n_, Z1, Z7, Zb, Zc, Ze, Zf, Zg, Zh, Zi, Zm, Zn, Zo, Zj, Zq, Zr, Zx, Zz, Z0p_, Z0q_, Z0r_, Z0s_, Z0t_, Z0u_, Z0v_, Z0w_, Z0x_, Z0y_, Z0z_, Z0A_, Env.get_put, Env.get_leaf, Nat.reduceAdd, Nat.reduceMul, Nat.reduceLT, Nat.reduceEqDiff, reduceIte, List.length_cons, List.length_nil, Nat.add_assoc, binP, ne_eq, not_true_eq_false, map_some, decide_eq_true_eq, decide_true, decide_false, ZA, ofCells, Bool.false_eq_true, Int.toNat_natCast, and_true, true_and, Bool.not_true, Bool.not_false, Option.map_none, List.map_cons, List.map_nil, Z0B_, eq_self_iff_true, Bool.true_eq_false, g0, g1, g5, g7, g9, g10, hpi, hp, k1', kF']
    (repeat' (first | exact True.intro | rfl | assumption | omega | apply And.intro))
  clear g0 g1 g5 g7 g9 g10 k1 kF hpi
  rintro ⟨env, ⟨sto, c⟩⟩ ⟨g0, g1, g5, g7, g9, g10, k1, kF⟩
  simp only at g0 g1 g5 g7 g9 g10 k1 kF
  -- how many are turned
  obtain ⟨k, hk⟩ : ∃ k, min 4 (B - p) = k := ⟨_, rfl⟩
  have hkt : (t.take k).length = k := by rw [List.length_take]; omega
  obtain ⟨hz1, hz2⟩ := hturn (p := p) (ts := t.take k) (by omega) (by omega)
  obtain ⟨Fin, hFin⟩ : ∃ G, xorAt F (V + p) (t.take k) = G := ⟨_, rfl⟩
  have hFinL : Fin.length = F.length := by rw [← hFin]; exact xorAt_len _ _ _
  rw [hFin] at hz1 hz2
  refine Za (fun x => x.env.get 0 = .fsl l.length (evsC l) ∧ x.env.get 1 = .i .i64 (p : Int) ∧ x.env.get 5 = .ptr 1 0 ∧ x.env.get 7 = .rsl 89 1 0 F.length ∧ x.env.get 9 = .i .i64 (V : Int) ∧ x.env.get 10 = .i .i64 (B : Int) ∧ x.env.get 11 = .b false ∧ x.st.get 1 = some (.cells (ofBytes t) false) ∧ x.st.get 89 = some (.cells (ofBytes F) false)) ?_ ?_
  · have k1' : ∀ n, St.get ⟨sto, n⟩ 1 = some (.cells (ofBytes t) false) := fun _ => k1
    have kF' : ∀ n, St.get ⟨sto, n⟩ 89 = some (.cells (ofBytes F) false) := fun _ => kF
    simp only [↓Z0, ↓Z1, ↓Z2, ↓Z3, ↓Z4, ↓Z5, ↓Z6, ↓Z7, ↓Zb, ↓Zc, ↓Ze, ↓Zf, ↓Zg, ↓Zh, ↓Zi, ↓Zm, ↓Zn, ↓Zj, ↓Zq, ↓Zr, ↓Zx, ↓Zy, ↓Zz, ↓ZA, ↓ZB, ↓ZC, ↓ZD, ↓ZE, ↓ZF, ↓ZG, ↓ZH, ↓ZI, ↓ZJ, ↓ZK, ↓ZL, ↓ZM, ↓ZN, ↓ZO, ↓ZP, ↓ZQ, ↓ZR, ↓ZS, ↓ZT, ↓ZU, ↓ZV, ↓ZW, ↓ZX, ↓ZY, ↓ZZ, ↓Z00_, ↓Z01_, ↓Z02_, ↓Z03_, ↓Z04_, ↓Z05_, ↓Z06_, ↓Z07_, ↓Z08_, ↓Z09_, ↓Z0a_, ↓Z0b_, ↓Z0c_, ↓Z0d_, ↓Z0e_, ↓Z0f_, ↓Z0g_, ↓Z0h_, ↓Z0i_, ↓Z0j_, ↓Z0k_, ↓Z0l_, ↓Z0m_, ↓Z0n_, Z1, Z7, Zb, Zc, Ze, Zf, Zg, Zh, Zi, Zm, Zn, Zo, Zj, Zq, Zr, Zx, Zz, Z0p_, Z0q_, Z0r_, Z0s_, Z0t_, Z0u_, Z0v_, Z0w_, Z0x_, Z0y_, Z0z_, Z0A_, Env.get_put, Env.get_leaf, Nat.reduceAdd, Nat.reduceMul, Nat.reduceLT, Nat.reduceEqDiff, reduceIte, List.length_cons, List.length_nil, Nat.add_assoc, binP, ne_eq, not_true_eq_false, map_some, decide_eq_true_eq, decide_true, decide_false, ZA, ofCells, Bool.false_eq_true, Int.toNat_natCast, and_true, true_and, Bool.not_true, Bool.not_false, Option.map_none, List.map_cons, List.map_nil, Z0B_, eq_self_iff_true, Bool.true_eq_false, g0, g1, g5, g7, g9, g10, k1', kF']
    (repeat' (first | exact True.intro | rfl | assumption | omega | apply And.intro))
  clear g0 g1 g5 g7 g9 g10 k1 kF
  rintro ⟨env, ⟨sto, c⟩⟩ ⟨g0, g1, g5, g7, g9, g10, g11, k1, kF⟩
  simp only at g0 g1 g5 g7 g9 g10 g11 k1 kF
  refine Za (fun x => x.env.get 0 = .fsl l.length (evsC l) ∧ x.env.get 7 = .rsl 89 1 0 F.length ∧ x.env.get 11 = .b ((t.take k).any (· != 0)) ∧ x.st.get 89 = some (.cells (ofBytes Fin) false)) ?_ ?_
  · have k1' : ∀ n, St.get ⟨sto, n⟩ 1 = some (.cells (ofBytes t) false) := fun _ => k1
    have kF' : ∀ n, St.get ⟨sto, n⟩ 89 = some (.cells (ofBytes F) false) := fun _ => kF
    rw [Z0]
    simp only [↓Z1, ↓Z2, ↓Z3, ↓Z4, ↓Z5, ↓Z6, ↓Z7, ↓Zb, ↓Zc, ↓Ze, ↓Zf, ↓Zg, ↓Zh, ↓Zi, ↓Zm, ↓Zn, ↓Zj, ↓Zq, ↓Zr, ↓Zx, ↓Zy, ↓Zz, ↓ZA, ↓ZB, ↓ZC, ↓ZD, ↓ZE, ↓ZF, ↓ZG, ↓ZH, ↓ZI, ↓ZJ, ↓ZK, ↓ZL, ↓ZM, ↓ZN, ↓ZO, ↓ZP, ↓ZQ, ↓ZR, ↓ZS, ↓ZT, ↓ZU, ↓ZV, ↓ZW, ↓ZX, ↓ZY, ↓ZZ, ↓Z00_, ↓Z01_, ↓Z02_, ↓Z03_, ↓Z04_, ↓Z05_, ↓Z06_, ↓Z07_, ↓Z08_, ↓Z09_, ↓Z0a_, ↓Z0b_, ↓Z0c_, ↓Z0d_, ↓Z0e_, ↓Z0f_, ↓Z0g_, ↓Z0h_, ↓Z0i_, ↓Z0j_, ↓Z0k_, ↓Z0l_, ↓Z0m_, ↓Z0n_, Z1, Z7, Zb, Zc, Ze, Zf, Zg, Zh, Zi, Zm, Zn, Zo, Zj, Zq, Zr, Zx, Zz, Z0p_, Z0q_, Z0r_, Z0s_, Z0t_, Z0u_, Z0v_, Z0w_, Z0x_, Z0y_, Z0z_, Z0A_, Env.get_put, Env.get_leaf, Nat.reduceAdd, Nat.reduceMul, Nat.reduceLT, Nat.reduceEqDiff, reduceIte, List.length_cons, List.length_nil, Nat.add_assoc, binP, ne_eq, not_true_eq_false, map_some, decide_eq_true_eq, decide_true, decide_false, ZA, ofCells, Bool.false_eq_true, Int.toNat_natCast, and_true, true_and, Bool.not_true, Bool.not_false, Option.map_none, List.map_cons, List.map_nil, Z0B_, eq_self_iff_true, Bool.true_eq_false]
    refine Z9 (k := k - 0) (fun d x => ∃ (i : Nat) (G : List UInt8), i ≤ k ∧ d = k - i ∧ G.length = F.length ∧ xorAt G (V + p + i) ((t.take k).drop i) = Fin ∧ x.env.get 0 = .fsl l.length (evsC l) ∧ x.env.get 1 = .i .i64 (p : Int) ∧ x.env.get 5 = .ptr 1 0 ∧ x.env.get 7 = .rsl 89 1 0 F.length ∧ x.env.get 9 = .i .i64 (V : Int) ∧ x.env.get 10 = .i .i64 (B : Int) ∧ x.env.get 11 = .b ((t.take i).any (· != 0)) ∧ x.env.get 12 = .i .i64 (i : Int) ∧ x.st.get 1 = some (.cells (ofBytes t) false) ∧ x.st.get 89 = some (.cells (ofBytes G) false)) ?_ ?_ (by omega)
    · clear g0 g1 g5 g7 g9 g10 g11 k1 kF k1' kF'
      rintro d ⟨env, ⟨sto, c⟩⟩ ⟨i, G, hi, rfl, hGl, hG, g0, g1, g5, g7, g9, g10, g11, g12, k1, kF⟩
      simp only at g0 g1 g5 g7 g9 g10 g11 g12 k1 kF
      have w1 : IntKind.i64.wrap ((p : Int) + (i : Int)) = ((p + i : Nat) : Int) := by
        rw [wr_i64 _ ⟨by omega, by omega⟩]; rfl
      by_cases hik : i < k
      · obtain ⟨q, hq⟩ : ∃ q, V + p + i = q := ⟨_, rfl⟩
        have e5 : (i : Int) < Int.ofNat 4 := by show (i : Int) < 4; omega
        have e6 : ((p + i : Nat) : Int) < (B : Int) := by omega
        have w2 : IntKind.i64.wrap ((V : Int) + (p : Int)) = ((V + p : Nat) : Int) := by
          rw [wr_i64 _ ⟨by omega, by omega⟩]; rfl
        have w3 : IntKind.i64.wrap (((V + p : Nat) : Int) + (i : Int)) = (q : Int) := by
          rw [wr_i64 _ ⟨by omega, by omega⟩]; omega
        have w4 : IntKind.i64.wrap ((i : Int) + Int.ofNat 1) = ((i + 1 : Nat) : Int) := by
          rw [wr_i64 _ ⟨by show _ ≤ (i : Int) + 1; omega, by show (i : Int) + 1 < _; omega⟩]; rfl
        have hj1 : 0 ≤ (q : Int) := by omega
        have hj2 : (q : Int) < (F.length : Int) := by omega
        have hi0 : 0 ≤ (i : Int) := by omega
        have hi4 : (i : Int) < ((4 : Nat) : Int) := by omega
        have hld := fun n => load_byte (st := ⟨sto, n⟩) kF (i := q) (by omega)
        have hld2 := fun n => load_byte (st := ⟨sto, n⟩) k1 (i := i) (by omega)
        have hxor := ibits_xor8 (G.getD q 0) (t.getD i 0)
        have hsto := fun n => store_byte (st := ⟨sto, n⟩) kF (i := q) (by omega) (G.getD q 0 ^^^ t.getD i 0)
        have hdrop : (t.take k).drop i = t.getD i 0 :: (t.take k).drop (i + 1) := by
          rw [drop_cons (by rw [hkt]; exact hik)]
          congr 1
          simp [List.getD_eq_getElem?_getD, List.getElem?_take, hik]
        rw [hdrop, hq] at hG
        have hG' : xorAt (G.set q (G.getD q 0 ^^^ t.getD i 0)) (V + (p + (i + 1))) ((t.take k).drop (i + 1)) = Fin := by rw [show V + (p + (i + 1)) = q + 1 by omega]; exact hG
        have hany := any_take_succ (t := t) (i := i) (by omega)
        have hne : ((((t.getD i 0).toNat : Nat) : Int) != Int.ofNat 0) = (t.getD i 0 != 0) := by
          by_cases h0 : t.getD i 0 = 0
          · rw [h0]; rfl
          · have h1 : (t.getD i 0).toNat ≠ 0 := fun h => h0 (UInt8.toNat_inj.1 h)
            have h2 : (t.getD i 0 != 0) = true := by simpa using h0
            rw [h2]
            simp only [bne_iff_ne, ne_eq]
            intro h
            exact h1 (by have h3 : ((t.getD i 0).toNat : Int) = 0 := h; omega)
        generalize hX : G.set q (G.getD q 0 ^^^ t.getD i 0) = G2 at *
        have hG2 : G2.length = F.length := by rw [← hX, List.length_set]; exact hGl
        have fin : ∀ (b : Bool) (S2 : St), b = (t.take (i + 1)).any (· != 0) → S2.get 1 = some (.cells (ofBytes t) false) → S2.get 89 = some (.cells (ofBytes G2) false) → True := fun _ _ _ _ _ => trivial
        cases hch : (t.take i).any (· != 0) with
        | true =>
          rw [hch] at g11
          rw [hch, Bool.true_or] at hany
          simp only [↓Z0, ↓Z1, ↓Z2, ↓Z3, ↓Z4, ↓Z5, ↓Z6, ↓Z7, ↓Zb, ↓Zc, ↓Ze, ↓Zf, ↓Zg, ↓Zh, ↓Zi, ↓Zm, ↓Zn, ↓Zj, ↓Zq, ↓Zr, ↓Zx, ↓Zy, ↓Zz, ↓ZA, ↓ZB, ↓ZC, ↓ZD, ↓ZE, ↓ZF, ↓ZG, ↓ZH, ↓ZI, ↓ZJ, ↓ZK, ↓ZL, ↓ZM, ↓ZN, ↓ZO, ↓ZP, ↓ZQ, ↓ZR, ↓ZS, ↓ZT, ↓ZU, ↓ZV, ↓ZW, ↓ZX, ↓ZY, ↓ZZ, ↓Z00_, ↓Z01_, ↓Z02_, ↓Z03_, ↓Z04_, ↓Z05_, ↓Z06_, ↓Z07_, ↓Z08_, ↓Z09_, ↓Z0a_, ↓Z0b_, ↓Z0c_, ↓Z0d_, ↓Z0e_, ↓Z0f_, ↓Z0g_, ↓Z0h_, ↓Z0i_, ↓Z0j_, ↓Z0k_, ↓Z0l_, ↓Z0m_, ↓Z0n_, Z1, Z7, Zb, Zc, Ze, Zf, Zg, Zh, Zi, Zm, Zn, Zo, Zj, Zq, Zr, Zx, Zz, Z0p_, Z0q_, Z0r_, Z0s_, Z0t_, Z0u_, Z0v_, Z0w_, Z0x_, Z0y_, Z0z_, Z0A_, Env.get_put, Env.get_leaf, Nat.reduceAdd, Nat.reduceMul, Nat.reduceLT, Nat.reduceEqDiff, reduceIte, List.length_cons, List.length_nil, Nat.add_assoc, binP, ne_eq, not_true_eq_false, map_some, decide_eq_true_eq, decide_true, decide_false, ZA, ofCells, Bool.false_eq_true, Int.toNat_natCast, and_true, true_and, Bool.not_true, Bool.not_false, Option.map_none, List.map_cons, List.map_nil, Z0B_, eq_self_iff_true, Bool.true_eq_false, g0, g1, g5, g7, g9, g10, g11, g12, w1, w2, w3, w4, e5, e6, hj1, hj2, hi0, hi4, hld, hld2, hxor, hsto]
          have q1 : ∀ m n, St.get ⟨((⟨sto, m⟩ : St).put 89 (some (.cells (ofBytes G2) false))).sto, n⟩ 1 = some (.cells (ofBytes t) false) := by
            intro m n
            show ((⟨sto, m⟩ : St).put 89 _).get 1 = _
            rw [St.get_put_ne (by omega)]; exact k1
          have q2 : ∀ m n, St.get ⟨((⟨sto, m⟩ : St).put 89 (some (.cells (ofBytes G2) false))).sto, n⟩ 89 = some (.cells (ofBytes G2) false) := by
            intro m n
            show ((⟨sto, m⟩ : St).put 89 _).get 89 = _
            rw [St.get_putk]
          refine ⟨k - (i + 1), by omega, i + 1, G2, ?_⟩
          simp only [q1, q2, hany]
          (repeat' (first | exact True.intro | rfl | assumption | omega | apply And.intro))
        | false =>
          rw [hch] at g11
          rw [hch, Bool.false_or] at hany
          have q1 : ∀ m n, St.get ⟨((⟨sto, m⟩ : St).put 89 (some (.cells (ofBytes G2) false))).sto, n⟩ 1 = some (.cells (ofBytes t) false) := by
            intro m n
            show ((⟨sto, m⟩ : St).put 89 _).get 1 = _
            rw [St.get_put_ne (by omega)]; exact k1
          have q2 : ∀ m n, St.get ⟨((⟨sto, m⟩ : St).put 89 (some (.cells (ofBytes G2) false))).sto, n⟩ 89 = some (.cells (ofBytes G2) false) := by
            intro m n
            show ((⟨sto, m⟩ : St).put 89 _).get 89 = _
            rw [St.get_putk]
          have hld3 : ∀ m n, loadP ⟨((⟨sto, m⟩ : St).put 89 (some (.cells (ofBytes G2) false))).sto, n⟩ 1 (.ptr 1 (0 + i * 1)) = some [.i .u8 ((t.getD i 0).toNat : Int)] := fun m n => load_byte (q1 m n) (by omega)
          simp only [↓Z0, ↓Z1, ↓Z2, ↓Z3, ↓Z4, ↓Z5, ↓Z6, ↓Z7, ↓Zb, ↓Zc, ↓Ze, ↓Zf, ↓Zg, ↓Zh, ↓Zi, ↓Zm, ↓Zn, ↓Zj, ↓Zq, ↓Zr, ↓Zx, ↓Zy, ↓Zz, ↓ZA, ↓ZB, ↓ZC, ↓ZD, ↓ZE, ↓ZF, ↓ZG, ↓ZH, ↓ZI, ↓ZJ, ↓ZK, ↓ZL, ↓ZM, ↓ZN, ↓ZO, ↓ZP, ↓ZQ, ↓ZR, ↓ZS, ↓ZT, ↓ZU, ↓ZV, ↓ZW, ↓ZX, ↓ZY, ↓ZZ, ↓Z00_, ↓Z01_, ↓Z02_, ↓Z03_, ↓Z04_, ↓Z05_, ↓Z06_, ↓Z07_, ↓Z08_, ↓Z09_, ↓Z0a_, ↓Z0b_, ↓Z0c_, ↓Z0d_, ↓Z0e_, ↓Z0f_, ↓Z0g_, ↓Z0h_, ↓Z0i_, ↓Z0j_, ↓Z0k_, ↓Z0l_, ↓Z0m_, ↓Z0n_, Z1, Z7, Zb, Zc, Ze, Zf, Zg, Zh, Zi, Zm, Zn, Zo, Zj, Zq, Zr, Zx, Zz, Z0p_, Z0q_, Z0r_, Z0s_, Z0t_, Z0u_, Z0v_, Z0w_, Z0x_, Z0y_, Z0z_, Z0A_, Env.get_put, Env.get_leaf, Nat.reduceAdd, Nat.reduceMul, Nat.reduceLT, Nat.reduceEqDiff, reduceIte, List.length_cons, List.length_nil, Nat.add_assoc, binP, ne_eq, not_true_eq_false, map_some, decide_eq_true_eq, decide_true, decide_false, ZA, ofCells, Bool.false_eq_true, Int.toNat_natCast, and_true, true_and, Bool.not_true, Bool.not_false, Option.map_none, List.map_cons, List.map_nil, Z0B_, eq_self_iff_true, Bool.true_eq_false, g0, g1, g5, g7, g9, g10, g11, g12, w1, w2, w3, w4, e5, e6, hj1, hj2, hi0, hi4, hld, hld2, hxor, hsto, hld3, hne]
          refine ⟨k - (i + 1), by omega, i + 1, G2, ?_⟩
          simp only [q1, q2, hany]
          (repeat' (first | exact True.intro | rfl | assumption | omega | apply And.intro))
      · have hik' : i = k := by omega
        have hGF : G = Fin := by
          rw [← hG, hik', List.drop_of_length_le (by omega)]; rfl
        subst hGF
        rw [hik'] at g11 g12 w1
        have k1' : ∀ n, St.get ⟨sto, n⟩ 1 = some (.cells (ofBytes t) false) := fun _ => k1
        have kF' : ∀ n, St.get ⟨sto, n⟩ 89 = some (.cells (ofBytes G) false) := fun _ => kF
        by_cases hk4 : k < 4
        · have e5 : (k : Int) < Int.ofNat 4 := by show (k : Int) < 4; omega
          have e6 : ¬ ((p + k : Nat) : Int) < (B : Int) := by omega
          simp only [↓Z0, ↓Z1, ↓Z2, ↓Z3, ↓Z4, ↓Z5, ↓Z6, ↓Z7, ↓Zb, ↓Zc, ↓Ze, ↓Zf, ↓Zg, ↓Zh, ↓Zi, ↓Zm, ↓Zn, ↓Zj, ↓Zq, ↓Zr, ↓Zx, ↓Zy, ↓Zz, ↓ZA, ↓ZB, ↓ZC, ↓ZD, ↓ZE, ↓ZF, ↓ZG, ↓ZH, ↓ZI, ↓ZJ, ↓ZK, ↓ZL, ↓ZM, ↓ZN, ↓ZO, ↓ZP, ↓ZQ, ↓ZR, ↓ZS, ↓ZT, ↓ZU, ↓ZV, ↓ZW, ↓ZX, ↓ZY, ↓ZZ, ↓Z00_, ↓Z01_, ↓Z02_, ↓Z03_, ↓Z04_, ↓Z05_, ↓Z06_, ↓Z07_, ↓Z08_, ↓Z09_, ↓Z0a_, ↓Z0b_, ↓Z0c_, ↓Z0d_, ↓Z0e_, ↓Z0f_, ↓Z0g_, ↓Z0h_, ↓Z0i_, ↓Z0j_, ↓Z0k_, ↓Z0l_, ↓Z0m_, ↓Z0n_, Z1, Z7, Zb, Zc, Ze, Zf, Zg, Zh, Zi, Zm, Zn, Zo, Zj, Zq, Zr, Zx, Zz, Z0p_, Z0q_, Z0r_, Z0s_, Z0t_, Z0u_, Z0v_, Z0w_, Z0x_, Z0y_, Z0z_, Z0A_, Env.get_put, Env.get_leaf, Nat.reduceAdd, Nat.reduceMul, Nat.reduceLT, Nat.reduceEqDiff, reduceIte, List.length_cons, List.length_nil, Nat.add_assoc, binP, ne_eq, not_true_eq_false, map_some, decide_eq_true_eq, decide_true, decide_false, ZA, ofCells, Bool.false_eq_true, Int.toNat_natCast, and_true, true_and, Bool.not_true, Bool.not_false, Option.map_none, List.map_cons, List.map_nil, Z0B_, eq_self_iff_true, Bool.true_eq_false, g0, g1, g5, g7, g9, g10, g11, g12, w1, e5, e6, k1', kF']
          (repeat' (first | exact True.intro | rfl | assumption | omega | apply And.intro))
        · have e5 : ¬ (k : Int) < Int.ofNat 4 := by show ¬ (k : Int) < 4; omega
          simp only [↓Z0, ↓Z1, ↓Z2, ↓Z3, ↓Z4, ↓Z5, ↓Z6, ↓Z7, ↓Zb, ↓Zc, ↓Ze, ↓Zf, ↓Zg, ↓Zh, ↓Zi, ↓Zm, ↓Zn, ↓Zj, ↓Zq, ↓Zr, ↓Zx, ↓Zy, ↓Zz, ↓ZA, ↓ZB, ↓ZC, ↓ZD, ↓ZE, ↓ZF, ↓ZG, ↓ZH, ↓ZI, ↓ZJ, ↓ZK, ↓ZL, ↓ZM, ↓ZN, ↓ZO, ↓ZP, ↓ZQ, ↓ZR, ↓ZS, ↓ZT, ↓ZU, ↓ZV, ↓ZW, ↓ZX, ↓ZY, ↓ZZ, ↓Z00_, ↓Z01_, ↓Z02_, ↓Z03_, ↓Z04_, ↓Z05_, ↓Z06_, ↓Z07_, ↓Z08_, ↓Z09_, ↓Z0a_, ↓Z0b_, ↓Z0c_, ↓Z0d_, ↓Z0e_, ↓Z0f_, ↓Z0g_, ↓Z0h_, ↓Z0i_, ↓Z0j_, ↓Z0k_, ↓Z0l_, ↓Z0m_, ↓Z0n_, Z1, Z7, Zb, Zc, Ze, Zf, Zg, Zh, Zi, Zm, Zn, Zo, Zj, Zq, Zr, Zx, Zz, Z0p_, Z0q_, Z0r_, Z0s_, Z0t_, Z0u_, Z0v_, Z0w_, Z0x_, Z0y_, Z0z_, Z0A_, Env.get_put, Env.get_leaf, Nat.reduceAdd, Nat.reduceMul, Nat.reduceLT, Nat.reduceEqDiff, reduceIte, List.length_cons, List.length_nil, Nat.add_assoc, binP, ne_eq, not_true_eq_false, map_some, decide_eq_true_eq, decide_true, decide_false, ZA, ofCells, Bool.false_eq_true, Int.toNat_natCast, and_true, true_and, Bool.not_true, Bool.not_false, Option.map_none, List.map_cons, List.map_nil, Z0B_, eq_self_iff_true, Bool.true_eq_false, g0, g1, g5, g7, g9, g10, g11, g12, w1, e5, k1', kF']
          (repeat' (first | exact True.intro | rfl | assumption | omega | apply And.intro))
    · refine ⟨0, F, Nat.zero_le _, rfl, rfl, hFin, ?_⟩
      simp only [Env.get_put, Nat.reduceEqDiff, if_false, if_true, g0, g1, g5, g7, g9, g10, g11, k1', kF', List.take_zero, List.any_nil]
      (repeat' (first | exact True.intro | rfl | assumption | omega | apply And.intro))
  clear g0 g1 g5 g7 g9 g10 g11 k1 kF
  rintro ⟨env, ⟨sto, c⟩⟩ ⟨g0, g7, g11, kF⟩
  simp only at g0 g7 g11 kF
  have hdF : ∀ n, deepL ⟨sto, n⟩ [.rsl 89 1 0 F.length, .i .i64 (Int.ofNat 0)] = some [.fsl Fin.length (ofBytes Fin), .i .i64 (Int.ofNat 0)] := by
    intro n
    rw [← hFinL]
    exact deep_2 (deep_b (st := ⟨sto, n⟩) kF) (deep_i _ _ _)
  cases hch : (t.take k).any (· != 0) with
  | true =>
    rw [hch] at g11
    have hne : ∃ u ∈ t.take k, u ≠ 0 := by
      rw [List.any_eq_true] at hch
      obtain ⟨u, h1, h2⟩ := hch
      exact ⟨u, h1, by simpa using h2⟩
    have hr := fun n key => k_read_no (callE := evFn cfgK7 10) (st := ⟨sto, n⟩) (key := key) (hdF n) in_arg (by omega) (hz2 hne)
    have e7 : ((12 : Int) == Int.ofNat 12) = true := rfl
    have e8 : ((Int.ofNat 0 : Int) == Int.ofNat 0) = true := rfl
    have e9 : ((0 : Int) == Int.ofNat 0) = true := rfl
    have hlnil : lenP .nsl = some (.i .i64 0) := rfl
    simp only [↓Z0, ↓Z1, ↓Z2, ↓Z3, ↓Z4, ↓Z5, ↓Z6, ↓Z7, ↓Zb, ↓Zc, ↓Ze, ↓Zf, ↓Zg, ↓Zh, ↓Zi, ↓Zm, ↓Zn, ↓Zj, ↓Zq, ↓Zr, ↓Zx, ↓Zy, ↓Zz, ↓ZA, ↓ZB, ↓ZC, ↓ZD, ↓ZE, ↓ZF, ↓ZG, ↓ZH, ↓ZI, ↓ZJ, ↓ZK, ↓ZL, ↓ZM, ↓ZN, ↓ZO, ↓ZP, ↓ZQ, ↓ZR, ↓ZS, ↓ZT, ↓ZU, ↓ZV, ↓ZW, ↓ZX, ↓ZY, ↓ZZ, ↓Z00_, ↓Z01_, ↓Z02_, ↓Z03_, ↓Z04_, ↓Z05_, ↓Z06_, ↓Z07_, ↓Z08_, ↓Z09_, ↓Z0a_, ↓Z0b_, ↓Z0c_, ↓Z0d_, ↓Z0e_, ↓Z0f_, ↓Z0g_, ↓Z0h_, ↓Z0i_, ↓Z0j_, ↓Z0k_, ↓Z0l_, ↓Z0m_, ↓Z0n_, Z1, Z7, Zb, Zc, Ze, Zf, Zg, Zh, Zi, Zm, Zn, Zo, Zj, Zq, Zr, Zx, Zz, Z0p_, Z0q_, Z0r_, Z0s_, Z0t_, Z0u_, Z0v_, Z0w_, Z0x_, Z0y_, Z0z_, Z0A_, Env.get_put, Env.get_leaf, Nat.reduceAdd, Nat.reduceMul, Nat.reduceLT, Nat.reduceEqDiff, reduceIte, List.length_cons, List.length_nil, Nat.add_assoc, binP, ne_eq, not_true_eq_false, map_some, decide_eq_true_eq, decide_true, decide_false, ZA, ofCells, Bool.false_eq_true, Int.toNat_natCast, and_true, true_and, Bool.not_true, Bool.not_false, Option.map_none, List.map_cons, List.map_nil, Z0B_, eq_self_iff_true, Bool.true_eq_false, Z0C_, Z0D_, Z0E_, Z0F_, Z0G_, Z0H_, Z0I_, Z0J_, Z0K_, Z0L_, Z0M_, Z0N_, Z0O_, Z0P_, Z0Q_, Z0R_, Z0S_, Z0T_, Z0U_, Z0V_, Z0W_, Z0X_, Z0Y_, Z0Z_, Z10_, Z11_, Z12_, Z13_, Z14_, Z15_, Z16_, Z17_, Z18_, Z19_, Z1a_, Z1b_, Z1c_, Z1d_, Z1e_, Z1f_, Z1g_, List.take_succ_cons, List.take_zero, List.drop_succ_cons, List.drop_zero, List.cons_append, List.nil_append, List.append_nil, List.all_cons, List.all_nil, Bool.and_self, Bool.and_true, Bool.true_and, Nat.zero_add, Nat.add_zero, Nat.reduceLeDiff, Nat.le_refl, List.getElem?_cons_zero, List.getElem?_cons_succ, Nat.add_left_cancel_iff, Nat.left_eq_add, Nat.add_eq_left, not_false_eq_true, Z1h_, Z1i_, Z1j_, Z1k_, g0, g7, g11, hr, aw, e7, e8, e9, hlnil]
    refine ⟨nofun, _, rfl, ?_⟩
    simp only [tupV, ↓Z0, ↓Z1, ↓Z2, ↓Z3, ↓Z4, ↓Z5, ↓Z6, ↓Z7, ↓Zb, ↓Zc, ↓Ze, ↓Zf, ↓Zg, ↓Zh, ↓Zi, ↓Zm, ↓Zn, ↓Zj, ↓Zq, ↓Zr, ↓Zx, ↓Zy, ↓Zz, ↓ZA, ↓ZB, ↓ZC, ↓ZD, ↓ZE, ↓ZF, ↓ZG, ↓ZH, ↓ZI, ↓ZJ, ↓ZK, ↓ZL, ↓ZM, ↓ZN, ↓ZO, ↓ZP, ↓ZQ, ↓ZR, ↓ZS, ↓ZT, ↓ZU, ↓ZV, ↓ZW, ↓ZX, ↓ZY, ↓ZZ, ↓Z00_, ↓Z01_, ↓Z02_, ↓Z03_, ↓Z04_, ↓Z05_, ↓Z06_, ↓Z07_, ↓Z08_, ↓Z09_, ↓Z0a_, ↓Z0b_, ↓Z0c_, ↓Z0d_, ↓Z0e_, ↓Z0f_, ↓Z0g_, ↓Z0h_, ↓Z0i_, ↓Z0j_, ↓Z0k_, ↓Z0l_, ↓Z0m_, ↓Z0n_, Z1, Z7, Zb, Zc, Ze, Zf, Zg, Zh, Zi, Zm, Zn, Zo, Zj, Zq, Zr, Zx, Zz, Z0p_, Z0q_, Z0r_, Z0s_, Z0t_, Z0u_, Z0v_, Z0w_, Z0x_, Z0y_, Z0z_, Z0A_, Env.get_put, Env.get_leaf, Nat.reduceAdd, Nat.reduceMul, Nat.reduceLT, Nat.reduceEqDiff, reduceIte, List.length_cons, List.length_nil, Nat.add_assoc, binP, ne_eq, not_true_eq_false, map_some, decide_eq_true_eq, decide_true, decide_false, ZA, ofCells, Bool.false_eq_true, Int.toNat_natCast, and_true, true_and, Bool.not_true, Bool.not_false, Option.map_none, List.map_cons, List.map_nil, Z0B_, eq_self_iff_true, Bool.true_eq_false]
  | false =>
    rw [hch] at g11
    have hz : ∀ u ∈ t.take k, u = 0 := by
      intro u hu
      rw [List.any_eq_false] at hch
      simpa using hch u hu
    rw [hz1 hz] at hdF kF
    have hr := fun n key => k_read_ok (callE := evFn cfgK7 10) (st := ⟨sto, n⟩) (key := key) (hdF n) in_arg (by omega) hread
    have e7 : ((0 : Int) == Int.ofNat 0) = true := rfl
    have hsd : ∀ (m n key : Nat), deepL ⟨((⟨sto, m⟩ : St).put key (some (.cells (evsC l) false))).sto, n⟩ [.rsl key 5 0 l.length, .fsl l.length (evsC l)] = some [.fsl l.length (evsC l), .fsl l.length (evsC l)] := fun m n key => deep_2 (deep_e (St.get_putk ⟨sto, m⟩ key (some (.cells (evsC l) false)))) (deep_fsl _ _ _)
    have hse := fun (m n key key2 : Nat) => k_samee (callE := evFn cfgK7 10) (key := key2) (hsd m n key) (inEl_fsl l) (inEl_fsl l) hlb
    simp only [↓Z0, ↓Z1, ↓Z2, ↓Z3, ↓Z4, ↓Z5, ↓Z6, ↓Z7, ↓Zb, ↓Zc, ↓Ze, ↓Zf, ↓Zg, ↓Zh, ↓Zi, ↓Zm, ↓Zn, ↓Zj, ↓Zq, ↓Zr, ↓Zx, ↓Zy, ↓Zz, ↓ZA, ↓ZB, ↓ZC, ↓ZD, ↓ZE, ↓ZF, ↓ZG, ↓ZH, ↓ZI, ↓ZJ, ↓ZK, ↓ZL, ↓ZM, ↓ZN, ↓ZO, ↓ZP, ↓ZQ, ↓ZR, ↓ZS, ↓ZT, ↓ZU, ↓ZV, ↓ZW, ↓ZX, ↓ZY, ↓ZZ, ↓Z00_, ↓Z01_, ↓Z02_, ↓Z03_, ↓Z04_, ↓Z05_, ↓Z06_, ↓Z07_, ↓Z08_, ↓Z09_, ↓Z0a_, ↓Z0b_, ↓Z0c_, ↓Z0d_, ↓Z0e_, ↓Z0f_, ↓Z0g_, ↓Z0h_, ↓Z0i_, ↓Z0j_, ↓Z0k_, ↓Z0l_, ↓Z0m_, ↓Z0n_, Z1, Z7, Zb, Zc, Ze, Zf, Zg, Zh, Zi, Zm, Zn, Zo, Zj, Zq, Zr, Zx, Zz, Z0p_, Z0q_, Z0r_, Z0s_, Z0t_, Z0u_, Z0v_, Z0w_, Z0x_, Z0y_, Z0z_, Z0A_, Env.get_put, Env.get_leaf, Nat.reduceAdd, Nat.reduceMul, Nat.reduceLT, Nat.reduceEqDiff, reduceIte, List.length_cons, List.length_nil, Nat.add_assoc, binP, ne_eq, not_true_eq_false, map_some, decide_eq_true_eq, decide_true, decide_false, ZA, ofCells, Bool.false_eq_true, Int.toNat_natCast, and_true, true_and, Bool.not_true, Bool.not_false, Option.map_none, List.map_cons, List.map_nil, Z0B_, eq_self_iff_true, Bool.true_eq_false, Z0C_, Z0D_, Z0E_, Z0F_, Z0G_, Z0H_, Z0I_, Z0J_, Z0K_, Z0L_, Z0M_, Z0N_, Z0O_, Z0P_, Z0Q_, Z0R_, Z0S_, Z0T_, Z0U_, Z0V_, Z0W_, Z0X_, Z0Y_, Z0Z_, Z10_, Z11_, Z12_, Z13_, Z14_, Z15_, Z16_, Z17_, Z18_, Z19_, Z1a_, Z1b_, Z1c_, Z1d_, Z1e_, Z1f_, Z1g_, List.take_succ_cons, List.take_zero, List.drop_succ_cons, List.drop_zero, List.cons_append, List.nil_append, List.append_nil, List.all_cons, List.all_nil, Bool.and_self, Bool.and_true, Bool.true_and, Nat.zero_add, Nat.add_zero, Nat.reduceLeDiff, Nat.le_refl, List.getElem?_cons_zero, List.getElem?_cons_succ, Nat.add_left_cancel_iff, Nat.left_eq_add, Nat.add_eq_left, not_false_eq_true, Z1h_, Z1i_, Z1j_, Z1k_, g0, g7, g11, hr, aw, e7, hse]
    refine ⟨nofun, _, rfl, ?_⟩
    simp only [tupV, ↓Z0, ↓Z1, ↓Z2, ↓Z3, ↓Z4, ↓Z5, ↓Z6, ↓Z7, ↓Zb, ↓Zc, ↓Ze, ↓Zf, ↓Zg, ↓Zh, ↓Zi, ↓Zm, ↓Zn, ↓Zj, ↓Zq, ↓Zr, ↓Zx, ↓Zy, ↓Zz, ↓ZA, ↓ZB, ↓ZC, ↓ZD, ↓ZE, ↓ZF, ↓ZG, ↓ZH, ↓ZI, ↓ZJ, ↓ZK, ↓ZL, ↓ZM, ↓ZN, ↓ZO, ↓ZP, ↓ZQ, ↓ZR, ↓ZS, ↓ZT, ↓ZU, ↓ZV, ↓ZW, ↓ZX, ↓ZY, ↓ZZ, ↓Z00_, ↓Z01_, ↓Z02_, ↓Z03_, ↓Z04_, ↓Z05_, ↓Z06_, ↓Z07_, ↓Z08_, ↓Z09_, ↓Z0a_, ↓Z0b_, ↓Z0c_, ↓Z0d_, ↓Z0e_, ↓Z0f_, ↓Z0g_, ↓Z0h_, ↓Z0i_, ↓Z0j_, ↓Z0k_, ↓Z0l_, ↓Z0m_, ↓Z0n_, Z1, Z7, Zb, Zc, Ze, Zf, Zg, Zh, Zi, Zm, Zn, Zo, Zj, Zq, Zr, Zx, Zz, Z0p_, Z0q_, Z0r_, Z0s_, Z0t_, Z0u_, Z0v_, Z0w_, Z0x_, Z0y_, Z0z_, Z0A_, Env.get_put, Env.get_leaf, Nat.reduceAdd, Nat.reduceMul, Nat.reduceLT, Nat.reduceEqDiff, reduceIte, List.length_cons, List.length_nil, Nat.add_assoc, binP, ne_eq, not_true_eq_false, map_some, decide_eq_true_eq, decide_true, decide_false, ZA, ofCells, Bool.false_eq_true, Int.toNat_natCast, and_true, true_and, Bool.not_true, Bool.not_false, Option.map_none, List.map_cons, List.map_nil, Z0B_, eq_self_iff_true, Bool.true_eq_false]
theorem turned_law (n : Nat) (ps : List PV) (hl : ps.length = n * evSh.width) (hn : n ≤ reachBytes) (h : ∀ j, j < n → evSh.Is ((ps.drop (j * evSh.width)).take evSh.width)) (at0 : Int) (hat : (Lit.int .i64 at0).wf = true) (ts : List PV) (ht : (Sh.cons (.i .u8) (.cons (.i .u8) (.cons (.i .u8) (.cons (.i .u8) .nil)))).Is ts) : ∃ fuel, evP cfgK7 fuel 9 [.fsl n ps, .i .i64 at0, .agg ts] = some (.b true) := by
  obtain ⟨l, rfl, rfl, hE⟩ := is_evs hl h
  have ht4 : ∃ t : List UInt8, ts = ofBytes t ∧ t.length = 4 := by
    obtain ⟨⟨a, h1, w1⟩, ⟨b, h2, w2⟩, ⟨c, h3, w3⟩, ⟨d, h4, w4⟩, h5⟩ := ht
    simp only [Sh.width] at h1 h2 h3 h4 h5
    have hl4 : ts.length = 4 := by
      have q4 := congrArg List.length h4
      have q5 := congrArg List.length h5
      simp only [List.length_take, List.length_drop, List.length_singleton, List.length_nil] at q4 q5
      omega
    refine is_bytes (n := 4) (by omega) fun j hj => ?_
    have hj' : j = 0 ∨ j = 1 ∨ j = 2 ∨ j = 3 := by omega
    rcases hj' with rfl | rfl | rfl | rfl
    · exact ⟨a, h1, w1⟩
    · exact ⟨b, h2, w2⟩
    · exact ⟨c, by simpa [List.drop_drop] using h3, w3⟩
    · exact ⟨d, by simpa [List.drop_drop] using h4, w4⟩
  obtain ⟨t, rfl, ht'⟩ := ht4
  exact turned_ev (by unfold reachBytes at hn; omega) hE (i64_wf hat) ht'
end Go.Pe
