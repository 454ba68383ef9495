/-
  References of the layers 1 and 3, by the interpreter of plain data. No condition.
-/
import Derived.Test.YtmjoneiagfegdaaEvtE
import Derived.Test.YtmjoneiagfegdaaRefM
set_option linter.unusedVariables false
set_option linter.unusedSimpArgs false
namespace Go.Pe
open Go Go.Am Go.RowKit

theorem wr_u8n (n : Nat) : IntKind.u8.wrap (n : Int) = ((UInt8.ofNat n).toNat : Int) := by
  rw [IntKind.wrap_u8, UInt8.toNat_ofNat']
  omega
theorem ofBytes_one (c : UInt8) : ([.i .u8 (c.toNat : Int)] : List PV) = ofBytes [c] := rfl
theorem app_one {sto : Trie PObj} {q m key key2 : Nat} {L : List UInt8} {c : UInt8} (hk : St.get ⟨sto, m⟩ q = some (.cells (ofBytes L) false)) (hq : q ≠ key) (hl : L.length + 1 ≤ maxBytes) :
    appendP ((⟨sto, m⟩ : St).put key (some (.cells [.i .u8 (c.toNat : Int)] false))) key2 1 1 1 [.i .u8 (c.toNat : Int)] (.rsl q 1 0 L.length) = some (.rsl key2 1 0 (L ++ [c]).length, (((⟨sto, m⟩ : St).put key (some (.cells [.i .u8 (c.toNat : Int)] false))).put q none).put key2 (some (.cells (ofBytes (L ++ [c])) false))) := by
  refine app_at (news := [c]) (l := L) ?_ hl
  rw [St.get_put_ne (fun e => hq e.symm)]
  exact hk
theorem cells_one (S : St) (key : Nat) (v : PV) : cellsOf (S.put key (some (.cells [v] false))) 1 (.rsl key 1 0 1) = some (1, [v]) := by
  have h := St.get_putk S key (some (.cells [v] false))
  unfold cellsOf
  simp only [h]
  rfl
theorem pow_far {m k : Nat} (h1 : 128 ≤ m) (h2 : m * 128 ^ k < 18446744073709551616) : k ≤ 8 := by
  rcases Nat.lt_or_ge 8 k with h | h
  · exfalso
    have h3 : (128 : Nat) ^ 9 ≤ 128 ^ k := Nat.pow_le_pow_right (by decide) h
    have h4 : (128 : Nat) ^ 9 = 9223372036854775808 := by decide
    have h5 : 128 * 128 ^ k ≤ m * 128 ^ k := Nat.mul_le_mul_right _ h1
    omega
  · exact h
set_option maxHeartbeats 8000000 in
theorem rvarint_ev {cfg : Cfg} (hf : cfg.fn 45 = some m45) {fuel : Nat} (hfu : 12 ≤ fuel) {N : Nat} (hN : N < 18446744073709551616) :
    ∃ r st', evFn cfg (fuel + 1) 45 [.i .u64 N] { sto := .leaf, cnt := 1 } = some (r, st') ∧ ∃ q, r = .rsl q 1 0 (varint N).length ∧ st'.get q = some (.cells (ofBytes (varint N)) false) := by
  refine evFn_W hf ?_
  unfold m45
  have h128 : ¬ (Int.ofNat 128 = 0) := by decide
  have hrem : ∀ m : Nat, (m : Int).tmod (Int.ofNat 128) = ((m % 128 : Nat) : Int) := fun _ => rfl
  have hquo : ∀ m : Nat, (m : Int).tdiv (Int.ofNat 128) = ((m / 128 : Nat) : Int) := fun _ => rfl
  have hlr : ∀ (a b c n : Nat), lenP (.rsl a b c n) = some (.i .i64 n) := fun _ _ _ _ => rfl
  have w8 : ∀ m : Nat, IntKind.u8.wrap ((m % 128 : Nat) : Int) = ((UInt8.ofNat (m % 128)).toNat : Int) := fun m => wr_u8n _
  have wq : ∀ m : Nat, m < 18446744073709551616 → IntKind.u64.wrap ((m / 128 : Nat) : Int) = ((m / 128 : Nat) : Int) := fun m hm => wr_u64 _ ⟨by omega, by omega⟩
  have wN := wq N hN
  refine Za (fun x => x.env.get 0 = .i .u64 N) ?_ ?_
  · simp only [↓Z0, ↓Xp, ↓Xt, Xq, Xc, binP, ofCells, Nat.reduceAdd, Nat.reduceMul, Nat.reduceLT, Nat.reduceEqDiff, reduceIte, Xm, Nat.reduceLeDiff, putArgs]
    (repeat' (first | exact True.intro | rfl | assumption | omega | apply And.intro | exact St.get_putk _ _ _ | refine ⟨_, rfl, ?_⟩))
  rintro ⟨env, ⟨sto, c⟩⟩ g0
  simp only at g0
  refine Za (fun x => x.env.get 0 = .i .u64 N ∧ (∃ q, x.env.get 3 = .rsl q 1 0 ([UInt8.ofNat (N % 128)] : List UInt8).length ∧ x.st.get q = some (.cells [.i .u8 ((UInt8.ofNat (N % 128)).toNat : Int)] false) ∧ q < x.st.cnt)) ?_ ?_
  · simp only [↓Z0, ↓Xp, ↓Xt, Xq, Xc, binP, ofCells, Nat.reduceAdd, Nat.reduceMul, Nat.reduceLT, Nat.reduceEqDiff, reduceIte, Xm, Nat.reduceLeDiff, g0, h128, hrem, w8]
    (repeat' (first | exact True.intro | rfl | assumption | omega | apply And.intro | exact St.get_putk _ _ _ | refine ⟨_, rfl, ?_⟩))
  clear g0
  rintro ⟨env, ⟨sto, c⟩⟩ ⟨g0, h3⟩
  simp only at g0 h3
  have hh3 := h3
  obtain ⟨q0, g3, k3, hq0⟩ := hh3
  refine Za (fun x => ∃ q, x.env.get 3 = .rsl q 1 0 (varint N).length ∧ x.st.get q = some (.cells (ofBytes (varint N)) false)) ?_ ?_
  · rw [Z0]
    simp only [↓Xp, ↓Xt, Xq, Xc, binP, ofCells, Nat.reduceAdd, Nat.reduceMul, Nat.reduceLT, Nat.reduceEqDiff, reduceIte, g0, h128, hquo, wN]
    refine Z9 (k := 10 - 0) (fun d x => ∃ (k m q : Nat) (pre : List UInt8), k ≤ 9 ∧ d = 10 - k ∧ m < 18446744073709551616 ∧ pre.length = k ∧ varint N = pre ++ varF (9 - k) m ∧ m * 128 ^ k < 18446744073709551616 ∧ x.env.get 3 = .rsl q 1 0 (pre ++ [UInt8.ofNat (m % 128)]).length ∧ x.env.get 4 = .i .u64 ((m / 128 : Nat) : Int) ∧ x.st.get q = some (.cells (ofBytes (pre ++ [UInt8.ofNat (m % 128)])) false) ∧ q < x.st.cnt) ?_ ?_ (by omega)
    · clear g0 h3 g3 k3 hq0
      rintro d ⟨env, ⟨sto, c⟩⟩ ⟨k, m, q, pre, hk, rfl, hm, hpl, hvar, hpow, g3, g4, kq, hq⟩
      simp only at g3 g4 kq hq
      replace kq : ∀ n, St.get ⟨sto, n⟩ q = some (.cells (ofBytes (pre ++ [UInt8.ofNat (m % 128)])) false) := fun _ => kq
      have wm := wq m hm
      by_cases hsm : m < 128
      · have e0 : ¬ (((m / 128 : Nat) : Int) > Int.ofNat 0) := by show ¬ (((m / 128 : Nat) : Int) > 0); omega
        have hfin : varint N = pre ++ [UInt8.ofNat (m % 128)] := by
          rw [hvar, show m % 128 = m by omega]; congr 1
          cases 9 - k with
          | zero => rfl
          | succ f => simp [varF, hsm]
        simp only [↓Z0, ↓Xp, ↓Xt, Xq, Xc, binP, ofCells, Nat.reduceAdd, Nat.reduceMul, Nat.reduceLT, Nat.reduceEqDiff, reduceIte, g3, g4, kq, e0]
        refine ⟨q, ?_, ?_⟩
        · rw [hfin]
        · rw [hfin]; exact kq _
      · have e0 : ((m / 128 : Nat) : Int) > Int.ofNat 0 := by show ((m / 128 : Nat) : Int) > 0; omega
        have hk8 := pow_far (by omega) hpow
        obtain ⟨L, hL⟩ : ∃ L, pre ++ [UInt8.ofNat (m % 128)] = L := ⟨_, rfl⟩
        have hLl : L.length = k + 1 := by rw [← hL]; simp [hpl]
        have hgd : L.getD k 0 = UInt8.ofNat (m % 128) := by rw [← hL, ← hpl]; simp [List.getD_eq_getElem?_getD]
        have hset : L.set k (UInt8.ofNat (m % 128 + 128)) = pre ++ [UInt8.ofNat (m % 128 + 128)] := by
          rw [← hL, ← hpl, List.set_append_right _ _ (Nat.le_refl _), Nat.sub_self]; rfl
        rw [hL] at g3
        simp only [hL] at kq
        rw [hLl] at g3
        have wk : IntKind.i64.wrap (((k + 1 : Nat) : Int) - Int.ofNat 1) = (k : Int) := by
          rw [wr_i64 _ ⟨by show _ ≤ ((k + 1 : Nat) : Int) - 1; omega, by show ((k + 1 : Nat) : Int) - 1 < _; omega⟩]
          show ((k + 1 : Nat) : Int) - 1 = _
          omega
        have h0k : 0 ≤ (k : Int) := by omega
        have hk1 : (k : Int) < ((k + 1 : Nat) : Int) := by omega
        refine Za (fun x => x.env.get 3 = .rsl q 1 0 (k + 1) ∧ x.env.get 4 = .i .u64 ((m / 128 : Nat) : Int) ∧ x.st.get q = some (.cells (ofBytes L) false) ∧ (q < x.st.cnt)) ?_ ?_
        · simp only [↓Z0, ↓Xp, ↓Xt, Xq, Xc, binP, ofCells, Nat.reduceAdd, Nat.reduceMul, Nat.reduceLT, Nat.reduceEqDiff, reduceIte, Xm, Nat.reduceLeDiff, g3, g4, kq, e0]
          (repeat' (first | exact True.intro | rfl | assumption | omega | apply And.intro | exact St.get_putk _ _ _ | refine ⟨_, rfl, ?_⟩))
        clear g3 g4 kq hq
        rintro ⟨env, ⟨sto, c⟩⟩ ⟨g3, g4, kq, hq⟩
        simp only at g3 g4 kq hq
        replace kq : ∀ n, St.get ⟨sto, n⟩ q = some (.cells (ofBytes L) false) := fun _ => kq
        have hld := fun n => load_byte (st := ⟨sto, n⟩) (kq n) (i := k) (by omega)
        rw [hgd] at hld
        have w2 : IntKind.u8.wrap (((UInt8.ofNat (m % 128)).toNat : Int) + Int.ofNat 128) = ((UInt8.ofNat (m % 128 + 128)).toNat : Int) := by
          rw [ofNat_small (by omega), ofNat_small (by omega)]
          rw [wr_u8 _ ⟨by show 0 ≤ ((m % 128 : Nat) : Int) + 128; omega, by show ((m % 128 : Nat) : Int) + 128 < 256; omega⟩]
          rfl
        have hsto := fun n => store_byte (st := ⟨sto, n⟩) (kq n) (i := k) (by omega) (UInt8.ofNat (m % 128 + 128))
        rw [hset] at hsto
        rw [Z0]
        simp only [↓Xp, ↓Xt, Xq, Xc, binP, ofCells, Nat.reduceAdd, Nat.reduceMul, Nat.reduceLT, Nat.reduceEqDiff, reduceIte]
        refine Za (fun x => x.env.get 3 = .rsl q 1 0 (k + 1) ∧ x.env.get 4 = .i .u64 ((m / 128 : Nat) : Int) ∧ x.st.get q = some (.cells (ofBytes (pre ++ [UInt8.ofNat (m % 128 + 128)])) false) ∧ (q < x.st.cnt)) ?_ ?_
        · simp only [↓Z0, ↓Xp, ↓Xt, Xq, Xc, binP, ofCells, Nat.reduceAdd, Nat.reduceMul, Nat.reduceLT, Nat.reduceEqDiff, reduceIte, List.getElem?_cons_zero, List.getElem?_cons_succ, Z0L_, g3, g4, kq, hlr, wk, h0k, hk1, hld, w2, hsto]
          (repeat' (first | exact True.intro | rfl | assumption | omega | apply And.intro | exact St.get_putk _ _ _ | refine ⟨_, rfl, ?_⟩))
        clear g3 g4 kq hq
        rintro ⟨env, ⟨sto, c⟩⟩ ⟨g3, g4, kq, hq⟩
        simp only at g3 g4 kq hq
        replace kq : ∀ n, St.get ⟨sto, n⟩ q = some (.cells (ofBytes (pre ++ [UInt8.ofNat (m % 128 + 128)])) false) := fun _ => kq
        clear hld hsto
        have hpl1 : (pre ++ [UInt8.ofNat (m % 128 + 128)]).length = k + 1 := by simp [hpl]
        have hvar2 : varint N = (pre ++ [UInt8.ofNat (m % 128 + 128)]) ++ varF (9 - (k + 1)) (m / 128) := by
          rw [hvar, show 9 - k = (9 - (k + 1)) + 1 by omega]
          conv => lhs; unfold varF
          rw [if_neg hsm, List.append_assoc]; rfl
        have hpow2 : m / 128 * 128 ^ (k + 1) < 18446744073709551616 := by
          rw [Nat.pow_succ, Nat.mul_comm (128 ^ k) 128, ← Nat.mul_assoc]
          exact Nat.lt_of_le_of_lt (Nat.mul_le_mul_right _ (Nat.div_mul_le_self m 128)) hpow
        obtain ⟨P, hP⟩ : ∃ L, pre ++ [UInt8.ofNat (m % 128 + 128)] = L := ⟨_, rfl⟩
        rw [hP] at hpl1 hvar2
        simp only [hP] at kq
        obtain ⟨m2, hm2⟩ : ∃ m2, m / 128 = m2 := ⟨_, rfl⟩
        rw [hm2] at hvar2 hpow2 g4
        have hm2' : m2 < 18446744073709551616 := by omega
        have wm2 := wq m2 hm2'
        have w82 := w8 m2
        have happ : ∀ (m key key2 : Nat), q < key → appendP ((⟨sto, m⟩ : St).put key (some (.cells [.i .u8 ((UInt8.ofNat (m2 % 128)).toNat : Int)] false))) key2 1 1 1 [.i .u8 ((UInt8.ofNat (m2 % 128)).toNat : Int)] (.rsl q 1 0 (k + 1)) = some (.rsl key2 1 0 (P ++ [UInt8.ofNat (m2 % 128)]).length, (((⟨sto, m⟩ : St).put key (some (.cells [.i .u8 ((UInt8.ofNat (m2 % 128)).toNat : Int)] false))).put q none).put key2 (some (.cells (ofBytes (P ++ [UInt8.ofNat (m2 % 128)])) false))) := by
          intro m key key2 hk
          rw [← hpl1]
          exact app_one (kq m) (by omega) (by rw [hpl1]; unfold maxBytes; omega)
        have hqc : ∀ j, q < c + j := fun j => by omega
        simp only [↓Z0, ↓Xp, ↓Xt, Xq, Xc, binP, ofCells, Nat.reduceAdd, Nat.reduceMul, Nat.reduceLT, Nat.reduceEqDiff, reduceIte, Xm, Nat.reduceLeDiff, g3, g4, h128, hrem, hquo, w82, wm2, cells_one, happ, hqc]
        refine ⟨10 - (k + 1), by omega, k + 1, m2, ?_⟩
        refine ⟨c + 40, P, by omega, rfl, hm2', hpl1, hvar2, hpow2, ?_⟩
        (repeat' (first | exact True.intro | rfl | assumption | omega | apply And.intro | exact St.get_putk _ _ _ | (simp only [Z0L_, Z0M_]; omega) | (simp (disch := omega) only [Z0H_, Z0I_, Z0J_, kq]; done) | refine ⟨_, rfl, ?_⟩))
    · refine ⟨0, N, q0, [], by omega, rfl, hN, rfl, rfl, by simpa using hN, ?_⟩
      simp only [Env.get_put, Nat.reduceEqDiff, if_false, if_true, g3]
      (repeat' (first | exact True.intro | rfl | assumption | omega | exact k3 | apply And.intro))
  rintro ⟨env, st1⟩ ⟨q, g3, kq⟩
  simp only at g3 kq
  simp only [↓Z0, ↓Xp, ↓Xt, Xq, Xc, binP, ofCells, Nat.reduceAdd, Nat.reduceMul, Nat.reduceLT, Nat.reduceEqDiff, reduceIte, g3]
  refine ⟨nofun, _, rfl, q, ?_, kq⟩
  simp only [tupV, ↓Z0, ↓Xp, ↓Xt, Xq, Xc, binP, ofCells, Nat.reduceAdd, Nat.reduceMul, Nat.reduceLT, Nat.reduceEqDiff, reduceIte]
def gRVar : List PV → Option PV
  | [.i .u64 n] => if 0 ≤ n ∧ n < 18446744073709551616 then some (.osl 1 (varint n.toNat).length (ofBytes (varint n.toNat))) else none
  | _ => none
theorem rvarint_any (args : List PV) (r : PV) (h : gRVar args = some r) : ∃ fuel, evP cfgE0 fuel 45 args = some r := by
  unfold gRVar at h
  split at h
  · rename_i n
    split at h
    · rename_i hc
      simp only [Option.some.injEq] at h
      subst h
      obtain ⟨r, st', h1, q, h2, h3⟩ := rvarint_ev (cfg := cfgE0) (by kernel_rfl) (fuel := 12) (by omega) (N := n.toNat) (by omega)
      rw [show ((n.toNat : Nat) : Int) = n by omega] at h1
      exact ⟨12 + 1, evP_of rfl rfl ⟨r, st', h1, by rw [h2]; exact close_bytes h3⟩⟩
    · simp at h
  · simp at h
theorem copy_own {st : St} {k off : Nat} {L a : List UInt8} (hk : st.get k = some (.cells (ofBytes L) false)) (h : off + a.length ≤ L.length) :
    copyP st 1 a.length (ofBytes a) (.rsl k 1 off (L.length - off)) = some (.i .i64 (a.length : Int), st.put k (some (.cells (ofBytes (L.take off ++ a ++ L.drop (off + a.length))) false))) := by
  have hm : Nat.min a.length (L.length - off) = a.length := Nat.min_eq_left (by omega)
  have ho := one_ofBytes a
  have ha : ((ofBytes L).take off ++ (ofBytes a).take a.length ++ (ofBytes L).drop (off + a.length)) = ofBytes (L.take off ++ a ++ L.drop (off + a.length)) := by
    rw [take_ofBytes, drop_ofBytes, take_ofBytes, List.take_length, append_ofBytes, append_ofBytes]
  unfold copyP
  simp only [hk, hm, Nat.mul_one, len_ofBytes, ho, ha]
  rw [if_pos ⟨trivial, by omega, trivial⟩]
theorem zerosN (n : Nat) : List.flatten (List.replicate n ([.i .u8 (.ofNat 0)] : List PV)) = ofBytes (List.replicate n 0) := by
  induction n with
  | zero => rfl
  | succ n ih =>
    rw [List.replicate_succ, List.replicate_succ, List.flatten_cons, ih]; rfl
set_option maxHeartbeats 8000000 in
theorem after_ev {cfg : Cfg} (hf : cfg.fn 46 = some m46) {fuel : Nat} {v w : PV} {a b : List UInt8} (hv : inL v = some a) (hw : inL w = some b) (hl : a.length + b.length ≤ 140737488355328) :
    ∃ r st', evFn cfg (fuel + 1) 46 [v, w] { sto := .leaf, cnt := 1 } = some (r, st') ∧ ∃ q, r = .rsl q 1 0 (a ++ b).length ∧ st'.get q = some (.cells (ofBytes (a ++ b)) false) := by
  refine evFn_W hf ?_
  unfold m46
  have hla := in_len hv
  have hlb := in_len hw
  have hca := fun st => cells_in (st := st) hv
  have hcb := fun st => cells_in (st := st) hw
  obtain ⟨nn, hn⟩ : ∃ nn, a.length + b.length = nn := ⟨_, rfl⟩
  have wn : IntKind.i64.wrap ((a.length : Int) + (b.length : Int)) = (nn : Int) := by
    rw [wr_i64 _ ⟨by omega, by omega⟩]; omega
  have h0n : 0 ≤ (nn : Int) := by omega
  have hnm : nn ≤ maxBytes := by unfold maxBytes; omega
  have hz := zerosN nn
  have h01 : (0 : Nat) < 1 := by decide
  refine Za (fun x => x.env.get 0 = v ∧ x.env.get 1 = w) ?_ ?_
  · simp only [↓Z0, ↓Xp, ↓Xt, Xq, Xc, binP, ofCells, Nat.reduceAdd, Nat.reduceMul, Nat.reduceLT, Nat.reduceEqDiff, reduceIte, Xm, Nat.reduceLeDiff, putArgs]
    (repeat' (first | exact True.intro | rfl | assumption | omega | apply And.intro | exact St.get_putk _ _ _ | refine ⟨_, rfl, ?_⟩))
  rintro ⟨env, ⟨sto, c⟩⟩ ⟨g0, g1⟩
  simp only at g0 g1
  obtain ⟨q, hq⟩ : ∃ q, q = c + 40 := ⟨_, rfl⟩
  have hq' : c + 40 = q := hq.symm
  refine Za (fun x => x.env.get 0 = v ∧ x.env.get 1 = w ∧ x.env.get 5 = .rsl q 1 0 nn ∧ x.st.get q = some (.cells (ofBytes (List.replicate nn 0)) false)) ?_ ?_
  · simp only [↓Z0, ↓Xp, ↓Xt, Xq, Xc, binP, ofCells, Nat.reduceAdd, Nat.reduceMul, Nat.reduceLT, Nat.reduceEqDiff, reduceIte, Xm, Nat.reduceLeDiff, g0, g1, hla, hlb, wn, h0n, hnm, hz, hq', h01, Nat.mul_one]
    (repeat' (first | exact True.intro | rfl | assumption | omega | apply And.intro | exact St.get_putk _ _ _ | refine ⟨_, rfl, ?_⟩))
  clear g0 g1
  rintro ⟨env, ⟨sto, c⟩⟩ ⟨g0, g1, g5, kq⟩
  simp only at g0 g1 g5 kq
  replace kq : ∀ n, St.get ⟨sto, n⟩ q = some (.cells (ofBytes (List.replicate nn 0)) false) := fun _ => kq
  clear hq hq'
  have hc1 := fun m => copy_own (st := ⟨sto, m⟩) (off := 0) (a := a) (kq m) (by simp; omega)
  have hr1 : (List.replicate nn (0 : UInt8)).take 0 ++ a ++ (List.replicate nn (0 : UInt8)).drop (0 + a.length) = a ++ List.replicate b.length 0 := by
    rw [List.take_zero, List.nil_append, List.drop_replicate, Nat.zero_add]
    congr 2; omega
  rw [hr1, List.length_replicate, Nat.sub_zero] at hc1
  refine Za (fun x => x.env.get 0 = v ∧ x.env.get 1 = w ∧ x.env.get 5 = .rsl q 1 0 nn ∧ x.st.get q = some (.cells (ofBytes (a ++ List.replicate b.length 0)) false)) ?_ ?_
  · simp only [↓Z0, ↓Xp, ↓Xt, Xq, Xc, binP, ofCells, Nat.reduceAdd, Nat.reduceMul, Nat.reduceLT, Nat.reduceEqDiff, reduceIte, Xm, Nat.reduceLeDiff, g0, g1, g5, kq, hca, hc1]
    (repeat' (first | exact True.intro | rfl | assumption | omega | apply And.intro | exact St.get_putk _ _ _ | refine ⟨_, rfl, ?_⟩))
  clear g0 g1 g5 kq
  rintro ⟨env, ⟨sto, c⟩⟩ ⟨g0, g1, g5, kq⟩
  simp only at g0 g1 g5 kq
  replace kq : ∀ n, St.get ⟨sto, n⟩ q = some (.cells (ofBytes (a ++ List.replicate b.length 0)) false) := fun _ => kq
  clear hc1 hr1
  by_cases hs : a.length < nn ∨ a.length = 0
  · have hsl : sliceP 1 (some (.i .i64 (a.length : Int))) none (.rsl q 1 0 nn) = some (.rsl q 1 a.length (nn - a.length)) := by
      have hb := bound_ok (k := .i64) (d := 0) (most := nn) (n := (a.length : Int)) ⟨by omega, by omega⟩
      unfold sliceP
      simp only [Z0B_, hb, Int.toNat_natCast]
      rw [if_pos ⟨trivial, hs⟩]
      simp
    have hc2 := fun m => copy_own (st := ⟨sto, m⟩) (off := a.length) (a := b) (kq m) (by simp)
    have hr2 : (a ++ List.replicate b.length (0 : UInt8)).take a.length ++ b ++ (a ++ List.replicate b.length (0 : UInt8)).drop (a.length + b.length) = a ++ b := by
      rw [List.take_left, List.drop_of_length_le (by simp), List.append_nil]
    have hr3 : (a ++ List.replicate b.length (0 : UInt8)).length - a.length = nn - a.length := by rw [List.length_append, List.length_replicate]; omega
    rw [hr2, hr3] at hc2
    refine Za (fun x => x.env.get 0 = v ∧ x.env.get 1 = w ∧ x.env.get 5 = .rsl q 1 0 nn ∧ x.st.get q = some (.cells (ofBytes (a ++ b)) false)) ?_ ?_
    · simp only [↓Z0, ↓Xp, ↓Xt, Xq, Xc, binP, ofCells, Nat.reduceAdd, Nat.reduceMul, Nat.reduceLT, Nat.reduceEqDiff, reduceIte, Xm, Nat.reduceLeDiff, g0, g1, g5, kq, hla, hsl, hcb, hc2]
      (repeat' (first | exact True.intro | rfl | assumption | omega | apply And.intro | exact St.get_putk _ _ _ | refine ⟨_, rfl, ?_⟩))
    clear g0 g1 g5 kq
    rintro ⟨env, ⟨sto, c⟩⟩ ⟨g0, g1, g5, kq⟩
    simp only at g0 g1 g5 kq
    replace kq : ∀ n, St.get ⟨sto, n⟩ q = some (.cells (ofBytes (a ++ b)) false) := fun _ => kq
    simp only [↓Z0, ↓Xp, ↓Xt, Xq, Xc, binP, ofCells, Nat.reduceAdd, Nat.reduceMul, Nat.reduceLT, Nat.reduceEqDiff, reduceIte, g0, g1, g5, kq]
    refine ⟨nofun, _, rfl, q, ?_, kq _⟩
    simp only [tupV, ↓Z0, ↓Xp, ↓Xt, Xq, Xc, binP, ofCells, Nat.reduceAdd, Nat.reduceMul, Nat.reduceLT, Nat.reduceEqDiff, reduceIte, List.length_append, hn]
  · have hb0 : b = [] := List.length_eq_zero_iff.1 (by omega)
    subst hb0
    have hsl : sliceP 1 (some (.i .i64 (a.length : Int))) none (.rsl q 1 0 nn) = some (.fsl 0 []) := by
      have hb := bound_ok (k := .i64) (d := 0) (most := nn) (n := (a.length : Int)) ⟨by omega, by omega⟩
      unfold sliceP
      simp only [Z0B_, hb, Int.toNat_natCast]
      rw [if_neg (fun h => hs h.2), if_pos trivial]
    have hc2 : ∀ st, copyP st 1 0 [] (.fsl 0 []) = some (.i .i64 0, st) := fun _ => rfl
    have hcb' : ∀ st, cellsOf st 1 w = some (0, []) := hcb
    have kq' : St.get ⟨sto, c⟩ q = some (.cells (ofBytes (a ++ [])) false) := by
      have := kq c
      simpa using this
    simp only [↓Z0, ↓Xp, ↓Xt, Xq, Xc, binP, ofCells, Nat.reduceAdd, Nat.reduceMul, Nat.reduceLT, Nat.reduceEqDiff, reduceIte, g0, g1, g5, kq, hla, hsl, hcb', hc2]
    refine ⟨nofun, _, rfl, q, ?_, kq'⟩
    have hn' : a.length + 0 = nn := hn
    simp only [tupV, ↓Z0, ↓Xp, ↓Xt, Xq, Xc, binP, ofCells, Nat.reduceAdd, Nat.reduceMul, Nat.reduceLT, Nat.reduceEqDiff, reduceIte, List.length_append, hn']
def gRAfter : List PV → Option PV
  | [v, w] => match inL v, inL w with
    | some a, some b => if a.length + b.length ≤ 140737488355328 then some (.osl 1 (a ++ b).length (ofBytes (a ++ b))) else none
    | _, _ => none
  | _ => none
theorem open_in2 {v w : PV} {a b : List UInt8} (h : inL v = some a) (h2 : inL w = some b) : openArgs [v, w] = ([v, w], { sto := .leaf, cnt := 1 }) := open_in h
theorem after_any (args : List PV) (r : PV) (h : gRAfter args = some r) : ∃ fuel, evP cfgE0 fuel 46 args = some r := by
  unfold gRAfter at h
  split at h
  · rename_i v w
    split at h
    · rename_i a b h1 h2
      split at h
      · rename_i hc
        simp only [Option.some.injEq] at h
        subst h
        obtain ⟨r, st', h3, q, h4, h5⟩ := after_ev (cfg := cfgE0) (by kernel_rfl) (fuel := 0) h1 h2 hc
        exact ⟨0 + 1, evP_of rfl (open_in h1) ⟨r, st', h3, by rw [h4]; exact close_bytes h5⟩⟩
      · simp at h
    · simp at h
  · simp at h
theorem weighs_ev {cfg : Cfg} (hf : cfg.fn 44 = some m44) (hx : cfg.ext 44 = none) : ∀ (l : List UInt8) (v : PV) (fuel : Nat), inL v = some l → l.length < fuel → evP cfg fuel 44 [v] = some (.i .u64 (weighsN l))
  | [], v, 0, _, h => by simp at h
  | c :: l, v, 0, _, h => by simp at h
  | [], v, fuel + 1, hv, _ => by
    refine ev_flat hx (open_in hv) (fun _ => rfl) (evFn_W hf ?_)
    unfold m44
    have hlv : lenP v = some (.i .i64 ((0 : Nat) : Int)) := in_len hv
    have e0 : (((0 : Nat) : Int) == Int.ofNat 0) = true := rfl
    simp only [putArgs, ↓Z0, ↓Xp, ↓Xt, Xq, Xc, binP, ofCells, Nat.reduceAdd, Nat.reduceMul, Nat.reduceLT, Nat.reduceEqDiff, reduceIte, hlv, e0]
    refine ⟨nofun, _, rfl, ?_⟩
    simp only [tupV, ↓Z0, ↓Xp, ↓Xt, Xq, Xc, binP, ofCells, Nat.reduceAdd, Nat.reduceMul, Nat.reduceLT, Nat.reduceEqDiff, reduceIte]
    rfl
  | c :: l, v, fuel + 1, hv, hfu => by
    refine ev_flat hx (open_in hv) (fun _ => rfl) (evFn_W hf ?_)
    unfold m44
    have hwc : weighsN (c :: l) = (c.toNat % 128 + 128 * weighsN l) % 18446744073709551616 := rfl
    rw [hwc]
    obtain ⟨L, hL⟩ : ∃ L, c :: l = L := ⟨_, rfl⟩
    have hLl : L.length = l.length + 1 := by rw [← hL]; rfl
    have hgd : L.getD 0 0 = c := by rw [← hL]; rfl
    have hdr : L.drop 1 = l := by rw [← hL]; rfl
    have hL0 : L ≠ [] := by rw [← hL]; simp
    rw [hL] at hv hfu
    have hlv := in_len hv
    have e0 : ((L.length : Int) == Int.ofNat 0) = false := by simp; exact hL0
    have hvc := in_cons hv hL0
    subst hvc
    have hcl : (ofBytes L).length = L.length * 1 := by rw [len_ofBytes, Nat.mul_one]
    have h0 : 0 ≤ Int.ofNat 0 := Int.le_refl _
    have h1 : Int.ofNat 0 < (L.length : Int) := by show (0 : Int) < L.length; omega
    have hld := fun st => load_in (st := st) (l := L) (i := 0) (by omega)
    obtain ⟨v2, hsl, hv2⟩ := slice_in hv (a := 1) (by omega)
    have hsl' : sliceP 1 (some (.i .i64 (Int.ofNat 1))) none (.fsl L.length (ofBytes L)) = some v2 := hsl
    have hv2' : inL v2 = some l := by rw [hv2, hdr]
    have ih : runPure cfg (evFn cfg fuel) 44 [v2] = some (.i .u64 (weighsN l)) := weighs_ev hf hx l v2 fuel hv2' (by omega)
    have hdp : ∀ st, deepL st [v2] = some [v2] := fun st => deepL_flat (by simp only [List.all_cons, in_flat hv2', List.all_nil, Bool.and_self])
    have hcl2 : (PV.i .u64 (weighsN l : Int)).closedB = true := rfl
    have hrc : ∀ st key, recvRes st key (.i .u64 (weighsN l : Int)) = some (.i .u64 (weighsN l : Int), st) := fun _ _ => rfl
    have hc2 := c.toNat_lt
    have h128 : ¬ (Int.ofNat 128 = 0) := by decide
    rw [hgd] at hld
    have hld' : ∀ st, loadP st 1 (.fptr ((ofBytes L).drop ((Int.ofNat 0).toNat * 1))) = some [.i .u8 (c.toNat : Int)] := hld
    have hrem : ((c.toNat : Nat) : Int).tmod (Int.ofNat 128) = ((c.toNat % 128 : Nat) : Int) := rfl
    have w1 : IntKind.u64.wrap ((c.toNat % 128 : Nat) : Int) = ((c.toNat % 128 : Nat) : Int) := wr_u64 _ ⟨by omega, by omega⟩
    have hwl := weighsN_lt l
    generalize weighsN l = W at *
    have w2 : IntKind.u64.wrap (Int.ofNat 128 * (W : Int)) = ((128 * W % 18446744073709551616 : Nat) : Int) := by
      rw [IntKind.wrap_u64]
      show ((128 : Int) * (W : Int)) % 18446744073709551616 = _
      omega
    have w3 : IntKind.u64.wrap (((c.toNat % 128 : Nat) : Int) + ((128 * W % 18446744073709551616 : Nat) : Int)) = (((c.toNat % 128 + 128 * W) % 18446744073709551616 : Nat) : Int) := by
      rw [IntKind.wrap_u64]
      omega
    simp only [putArgs, ↓Z0, ↓Xp, ↓Xt, Xq, Xc, binP, ofCells, Nat.reduceAdd, Nat.reduceMul, Nat.reduceLT, Nat.reduceEqDiff, reduceIte, hlv, e0, hcl, h0, h1, hld', h128, hrem, w1, hsl', hdp, ih, hcl2, hrc, w2, w3]
    refine ⟨nofun, _, rfl, ?_⟩
    simp only [tupV, ↓Z0, ↓Xp, ↓Xt, Xq, Xc, binP, ofCells, Nat.reduceAdd, Nat.reduceMul, Nat.reduceLT, Nat.reduceEqDiff, reduceIte]
def gRWeighs : List PV → Option PV
  | [v] => match inL v with
    | some l => some (.i .u64 (weighsN l))
    | none => none
  | _ => none
theorem weighs_any (args : List PV) (r : PV) (h : gRWeighs args = some r) : ∃ fuel, evP cfgE0 fuel 44 args = some r := by
  unfold gRWeighs at h
  split at h
  · rename_i v
    split at h
    · rename_i l hl
      simp only [Option.some.injEq] at h
      subst h
      exact ⟨l.length + 1, weighs_ev (cfg := cfgE0) (by kernel_rfl) rfl l v _ hl (Nat.lt_succ_self _)⟩
    · simp at h
  · simp at h
def extR1 : FuncId → Option (List PV → Option PV) := fun f => if f = 45 then some gRVar else if f = 46 then some gRAfter else if f = 44 then some gRWeighs else none
noncomputable def cfgR1 : Cfg := { fn := fun f => lookT f tblL, ext := extR1 }
theorem cfgR0_ok {Gl : Gmap} : CfgOK Go.Proofs.Try.prog Gl cfgE0 := cfg_okt tbl_all fun f g h => by simp at h
theorem cfgR1_ok {Gl : Gmap} : CfgOK Go.Proofs.Try.prog Gl cfgR1 := by
  refine cfg_okt tbl_all ?_
  intro f g h
  unfold extR1 at h
  split at h
  · rename_i e; simp only [Option.some.injEq] at h; subst h; subst e
    exact pure_of cfgR0_ok rvarint_any
  split at h
  · rename_i e; simp only [Option.some.injEq] at h; subst h; subst e
    exact pure_of cfgR0_ok after_any
  split at h
  · rename_i e; simp only [Option.some.injEq] at h; subst h; subst e
    exact pure_of cfgR0_ok weighs_any
  · simp at h
section
variable {cfg : Cfg} {callE : CallE}
theorem r_varint (hx : cfg.ext 45 = some gRVar) {st : St} {key n : Nat} (hn : n < 18446744073709551616) : callStep (runPure cfg callE 45) false st key [.i .u64 n] = some (.rsl key 1 0 (varint n).length, st.put key (some (.cells (ofBytes (varint n)) false))) := by
  refine callStep_gen (deep_1 (deep_i _ _ _)) (r := .osl 1 (varint n).length (ofBytes (varint n))) ?_ (closed_osl _ _)
  rw [runPure_ext hx]
  unfold gRVar
  simp only [Int.toNat_natCast]
  rw [if_pos ⟨by omega, by omega⟩]
theorem r_after (hx : cfg.ext 46 = some gRAfter) {st : St} {key : Nat} {v w v' w' : PV} {a b : List UInt8} (hd : deepL st [v, w] = some [v', w']) (ha : inL v' = some a) (hb : inL w' = some b) (hl : a.length + b.length ≤ 140737488355328) : callStep (runPure cfg callE 46) false st key [v, w] = some (.rsl key 1 0 (a ++ b).length, st.put key (some (.cells (ofBytes (a ++ b)) false))) := by
  refine callStep_gen hd (r := .osl 1 (a ++ b).length (ofBytes (a ++ b))) ?_ (closed_osl _ _)
  rw [runPure_ext hx]
  unfold gRAfter
  simp only [ha, hb]
  rw [if_pos hl]
end
theorem deep_in {st : St} {v : PV} {l : List UInt8} (h : inL v = some l) : deep st 12 v = some v := deep_some 11 (in_flat h)
theorem ruint_ev {cfg : Cfg} (hf : cfg.fn 29 = some m29) (hx1 : cfg.ext 45 = some gRVar) (hx2 : cfg.ext 46 = some gRAfter) {fuel : Nat} {v : PV} {a : List UInt8} (hv : inL v = some a) {N : Nat} (hN : N < 18446744073709551616) (hl : a.length + 10 ≤ 140737488355328) :
    ∃ r st', evFn cfg (fuel + 1) 29 [v, .i .u64 N] { sto := .leaf, cnt := 1 } = some (r, st') ∧ ∃ q, r = .rsl q 1 0 (a ++ varint N).length ∧ st'.get q = some (.cells (ofBytes (a ++ varint N)) false) := by
  refine evFn_W hf ?_
  unfold m29
  have hc1 := fun st key => r_varint (callE := evFn cfg fuel) hx1 (st := st) (key := key) hN
  have hvl := varint_le N
  have hc2 : ∀ (S : St) (n key key2 : Nat), callStep (runPure cfg (evFn cfg fuel) 46) false ⟨(S.put key (some (.cells (ofBytes (varint N)) false))).sto, n⟩ key2 [v, .rsl key 1 0 (varint N).length] = some (.rsl key2 1 0 (a ++ varint N).length, (⟨(S.put key (some (.cells (ofBytes (varint N)) false))).sto, n⟩ : St).put key2 (some (.cells (ofBytes (a ++ varint N)) false))) := fun S n key key2 => r_after hx2 (deep_2 (deep_in hv) (deep_b (get_at S n key _))) hv (in_fsl _) (by omega)
  simp only [putArgs, ↓Z0, ↓Xp, ↓Xt, Xq, Xc, binP, ofCells, Nat.reduceAdd, Nat.reduceMul, Nat.reduceLT, Nat.reduceEqDiff, reduceIte, hc1, hc2]
  refine ⟨nofun, _, rfl, _, ?_, St.get_putk _ _ _⟩
  simp only [tupV, ↓Z0, ↓Xp, ↓Xt, Xq, Xc, binP, ofCells, Nat.reduceAdd, Nat.reduceMul, Nat.reduceLT, Nat.reduceEqDiff, reduceIte]
def gRUint : List PV → Option PV
  | [v, .i .u64 n] => match inL v with
    | some a => if 0 ≤ n ∧ n < 18446744073709551616 ∧ a.length + 10 ≤ 140737488355328 then some (.osl 1 (a ++ varint n.toNat).length (ofBytes (a ++ varint n.toNat))) else none
    | none => none
  | _ => none
theorem ruint_any (args : List PV) (r : PV) (h : gRUint args = some r) : ∃ fuel, evP cfgR1 fuel 29 args = some r := by
  unfold gRUint at h
  split at h
  · rename_i v n
    split at h
    · rename_i a ha
      split at h
      · rename_i hc
        simp only [Option.some.injEq] at h
        subst h
        obtain ⟨r, st', h1, q, h2, h3⟩ := ruint_ev (cfg := cfgR1) (by kernel_rfl) (by kernel_rfl) (by kernel_rfl) (fuel := 0) ha (N := n.toNat) (by omega) hc.2.2
        rw [show ((n.toNat : Nat) : Int) = n by omega] at h1
        exact ⟨0 + 1, evP_of (by kernel_rfl) (open_in ha) ⟨r, st', h1, by rw [h2]; exact close_bytes h3⟩⟩
      · simp at h
    · simp at h
  · simp at h
def extR2 : FuncId → Option (List PV → Option PV) := fun f => if f = 29 then some gRUint else none
noncomputable def cfgR2 : Cfg := { fn := fun f => lookT f tblL, ext := extR2 }
theorem cfgR2_ok {Gl : Gmap} : CfgOK Go.Proofs.Try.prog Gl cfgR2 := by
  refine cfg_okt tbl_all ?_
  intro f g h
  unfold extR2 at h
  split at h
  · rename_i e; simp only [Option.some.injEq] at h; subst h; subst e
    exact pure_of cfgR1_ok ruint_any
  · simp at h
theorem rint_ev {cfg : Cfg} (hf : cfg.fn 30 = some m30) (hx : cfg.ext 29 = some gRUint) {fuel : Nat} {v : PV} {a : List UInt8} (hv : inL v = some a) {n : Int} (hn : in64 n) (hl : a.length + 10 ≤ 140737488355328) :
    ∃ r st', evFn cfg (fuel + 1) 30 [v, .i .i64 n] { sto := .leaf, cnt := 1 } = some (r, st') ∧ ∃ q, r = .rsl q 1 0 (a ++ varint (foldN n)).length ∧ st'.get q = some (.cells (ofBytes (a ++ varint (foldN n))) false) := by
  refine evFn_W hf ?_
  unfold m30
  unfold in64 at hn
  have hc : ∀ (N : Nat) (st : St) key, N < 18446744073709551616 → callStep (runPure cfg (evFn cfg fuel) 29) false st key [v, .i .u64 (N : Int)] = some (.rsl key 1 0 (a ++ varint N).length, st.put key (some (.cells (ofBytes (a ++ varint N)) false))) := by
    intro N st key hN
    refine callStep_gen (deep_2 (deep_in hv) (deep_i _ _ _)) (r := .osl 1 (a ++ varint N).length (ofBytes (a ++ varint N))) ?_ (closed_osl _ _)
    rw [runPure_ext hx]
    unfold gRUint
    simp only [hv, Int.toNat_natCast]
    rw [if_pos ⟨by omega, by omega, hl⟩]
  by_cases hneg : n < 0
  · have e0 : n < Int.ofNat 0 := hneg
    have hfold : foldN n = (-2 * n - 1).toNat := by unfold foldN; rw [if_neg (by omega)]
    have w1 : IntKind.i64.wrap (Int.negSucc 0 - n) = ((-1 - n).toNat : Int) := by
      rw [wr_i64 _ ⟨by show _ ≤ (-1 : Int) - n; omega, by show (-1 : Int) - n < _; omega⟩]
      show (-1 : Int) - n = _
      omega
    have w2 : IntKind.u64.wrap (((-1 - n).toNat : Nat) : Int) = ((-1 - n).toNat : Int) := wr_u64 _ ⟨by omega, by omega⟩
    have w3 : IntKind.u64.wrap (Int.ofNat 2 * ((-1 - n).toNat : Int)) = ((2 * (-1 - n).toNat : Nat) : Int) := by
      rw [wr_u64 _ ⟨by show 0 ≤ (2 : Int) * _; omega, by show (2 : Int) * _ < _; omega⟩]
      show (2 : Int) * _ = _
      omega
    have w4 : IntKind.u64.wrap (((2 * (-1 - n).toNat : Nat) : Int) + Int.ofNat 1) = ((foldN n : Nat) : Int) := by
      rw [wr_u64 _ ⟨by show 0 ≤ ((2 * (-1 - n).toNat : Nat) : Int) + 1; omega, by show ((2 * (-1 - n).toNat : Nat) : Int) + 1 < _; omega⟩]
      show ((2 * (-1 - n).toNat : Nat) : Int) + 1 = _
      omega
    have hc' := fun st key => hc (foldN n) st key (by omega)
    simp only [putArgs, ↓Z0, ↓Xp, ↓Xt, Xq, Xc, binP, ofCells, Nat.reduceAdd, Nat.reduceMul, Nat.reduceLT, Nat.reduceEqDiff, reduceIte, e0, w1, w2, w3, w4, hc']
    refine ⟨nofun, _, rfl, _, ?_, St.get_putk _ _ _⟩
    simp only [tupV, ↓Z0, ↓Xp, ↓Xt, Xq, Xc, binP, ofCells, Nat.reduceAdd, Nat.reduceMul, Nat.reduceLT, Nat.reduceEqDiff, reduceIte]
  · have e0 : ¬ n < Int.ofNat 0 := hneg
    have hfold : foldN n = (2 * n).toNat := by unfold foldN; rw [if_pos (by omega)]
    have w2 : IntKind.u64.wrap n = n := wr_u64 _ ⟨by omega, by omega⟩
    have w3 : IntKind.u64.wrap (Int.ofNat 2 * n) = ((foldN n : Nat) : Int) := by
      rw [wr_u64 _ ⟨by show 0 ≤ (2 : Int) * n; omega, by show (2 : Int) * n < _; omega⟩]
      show (2 : Int) * n = _
      omega
    have hc' := fun st key => hc (foldN n) st key (by omega)
    simp only [putArgs, ↓Z0, ↓Xp, ↓Xt, Xq, Xc, binP, ofCells, Nat.reduceAdd, Nat.reduceMul, Nat.reduceLT, Nat.reduceEqDiff, reduceIte, e0, w2, w3, hc']
    refine ⟨nofun, _, rfl, _, ?_, St.get_putk _ _ _⟩
    simp only [tupV, ↓Z0, ↓Xp, ↓Xt, Xq, Xc, binP, ofCells, Nat.reduceAdd, Nat.reduceMul, Nat.reduceLT, Nat.reduceEqDiff, reduceIte]
def gRInt : List PV → Option PV
  | [v, .i .i64 n] => match inL v with
    | some a => if -9223372036854775808 ≤ n ∧ n < 9223372036854775808 ∧ a.length + 10 ≤ 140737488355328 then some (.osl 1 (a ++ varint (foldN n)).length (ofBytes (a ++ varint (foldN n)))) else none
    | none => none
  | _ => none
theorem rint_any (args : List PV) (r : PV) (h : gRInt args = some r) : ∃ fuel, evP cfgR2 fuel 30 args = some r := by
  unfold gRInt at h
  split at h
  · rename_i v n
    split at h
    · rename_i a ha
      split at h
      · rename_i hc
        simp only [Option.some.injEq] at h
        subst h
        obtain ⟨r, st', h1, q, h2, h3⟩ := rint_ev (cfg := cfgR2) (by kernel_rfl) (by kernel_rfl) (fuel := 0) ha (n := n) (by unfold in64; omega) hc.2.2
        exact ⟨0 + 1, evP_of (by kernel_rfl) (open_in ha) ⟨r, st', h1, by rw [h2]; exact close_bytes h3⟩⟩
      · simp at h
    · simp at h
  · simp at h
end Go.Pe
set_option linter.unusedVariables false
set_option linter.unusedSimpArgs false
namespace Go.Pe
open Go Go.Am Go.RowKit

theorem add_eq_xor' (k r A : Nat) (h : r < 2 ^ k) : 2 ^ k * A + r = 2 ^ k * A ^^^ r := by
  rw [Nat.two_pow_add_eq_or_of_lt h]
  apply Nat.eq_of_testBit_eq
  intro i
  rw [Nat.testBit_or, Nat.testBit_xor]
  by_cases hi : i < k
  · have : (2 ^ k * A).testBit i = false := by
      rw [Nat.testBit_two_pow_mul]; simp; omega
    rw [this]; simp
  · have : r.testBit i = false := Nat.testBit_lt_two_pow (Nat.lt_of_lt_of_le h (Nat.pow_le_pow_right (by decide) (by omega)))
    rw [this]; simp
theorem topFrom_step (L i : Nat) (h : L ≤ i) : topFrom L i = topFrom L (i + 1) ^^^ (if i < 32 then 2 ^ (i - L) else 0) := by
  unfold topFrom
  rw [if_pos h, if_pos (by omega)]
  by_cases h32 : i < 32
  · rw [if_pos h32]
    have e1 : ∀ j : Nat, j ≤ 32 → 4294967295 / 2 ^ j = 2 ^ (32 - j) - 1 := by
      intro j hj
      have : ∀ j : Fin 33, 4294967295 / 2 ^ j.val = 2 ^ (32 - j.val) - 1 := by decide
      exact this ⟨j, by omega⟩
    rw [e1 i (by omega), e1 (i + 1) (by omega)]
    have e2 : 2 ^ (32 - i) = 2 * 2 ^ (32 - (i + 1)) := by rw [← Nat.pow_succ']; congr 1; omega
    have e3 : 2 ^ (i + 1 - L) = 2 * 2 ^ (i - L) := by rw [← Nat.pow_succ']; congr 1; omega
    have h1 := Nat.two_pow_pos (32 - (i + 1))
    obtain ⟨A, hA⟩ : ∃ A, 2 ^ (32 - (i + 1)) = A + 1 := ⟨2 ^ (32 - (i + 1)) - 1, by omega⟩
    rw [e2, e3, hA]
    have h2 : A * (2 * 2 ^ (i - L)) = 2 ^ (i - L + 1) * A := by rw [Nat.pow_succ', Nat.mul_comm]
    have h3 : 2 ^ (i - L) < 2 ^ (i - L + 1) := Nat.pow_lt_pow_right (by decide) (by omega)
    rw [show A + 1 - 1 = A by omega, h2, ← add_eq_xor' _ _ _ h3]
    rw [show 2 * (A + 1) - 1 = 2 * A + 1 by omega, Nat.pow_succ', Nat.add_mul, Nat.one_mul]
    congr 1
    rw [Nat.mul_comm (2 * A), Nat.mul_comm 2 (2 ^ (i - L)), Nat.mul_assoc]
  · rw [if_neg h32, Nat.xor_zero]
    have e32 : (2 : Nat) ^ 32 = 4294967296 := by decide
    have h1 : 2 ^ 32 ≤ 2 ^ i := Nat.pow_le_pow_right (by decide) (by omega)
    have h2 : 2 ^ 32 ≤ 2 ^ (i + 1) := Nat.pow_le_pow_right (by decide) (by omega)
    rw [Nat.div_eq_of_lt (by omega), Nat.div_eq_of_lt (by omega), Nat.zero_mul, Nat.zero_mul]
theorem topFrom_far (L : Nat) : topFrom L (L + 32) = 0 := by
  unfold topFrom
  have e32 : (2 : Nat) ^ 32 = 4294967296 := by decide
  have h1 : 2 ^ 32 ≤ 2 ^ (L + 32) := Nat.pow_le_pow_right (by decide) (by omega)
  rw [if_pos (by omega), Nat.div_eq_of_lt (by omega), Nat.zero_mul]
theorem topFrom_lt (L i : Nat) : topFrom L i < 4294967296 := by
  unfold topFrom
  split
  · have h : 4294967295 / 2 ^ i * 2 ^ (i - L) ≤ 4294967295 / 2 ^ i * 2 ^ i := Nat.mul_le_mul_left _ (Nat.pow_le_pow_right (by decide) (by omega))
    have h2 := Nat.div_mul_le_self 4294967295 (2 ^ i)
    omega
  · omega
theorem topFrom_end (L : Nat) : topFrom L L = 4294967295 / 2 ^ L := by
  unfold topFrom
  rw [if_pos (Nat.le_refl _), Nat.sub_self, Nat.pow_zero, Nat.mul_one]
def gRHalved : List PV → Option PV
  | [.i .u32 n] => if 0 ≤ n ∧ n < 4294967296 then some (.i .u32 ((mstep n.toNat : Nat) : Int)) else none
  | _ => none
theorem halved_any (args : List PV) (r : PV) (h : gRHalved args = some r) : ∃ fuel, evP cfgE0 fuel 47 args = some r := by
  unfold gRHalved at h
  split at h
  · rename_i z
    split at h
    · rename_i hc
      simp only [Option.some.injEq] at h
      subst h
      obtain ⟨n, rfl⟩ : ∃ n : Nat, z = (n : Int) := ⟨z.toNat, by omega⟩
      rw [Int.toNat_natCast]
      refine ⟨0 + 1, ev_flat rfl rfl (fun _ => rfl) (evFn_W (by kernel_rfl : cfgE0.fn 47 = some m47) ?_)⟩
      unfold m47
      have h2 : ¬ (Int.ofNat 2 = 0) := by decide
      have hrem : (n : Int).tmod (Int.ofNat 2) = ((n % 2 : Nat) : Int) := rfl
      have hquo : (n : Int).tdiv (Int.ofNat 2) = ((n / 2 : Nat) : Int) := rfl
      have wq : IntKind.u32.wrap ((n / 2 : Nat) : Int) = ((n / 2 : Nat) : Int) := wr_u32 _ ⟨by omega, by omega⟩
      by_cases hb : n % 2 = 1
      · have e1 : (((n % 2 : Nat) : Int) == Int.ofNat 1) = true := by rw [hb]; rfl
        have hx : ibits .xor .u32 ((n / 2 : Nat) : Int) (Int.ofNat 3988292384) = some (.i .u32 ((n / 2 ^^^ 3988292384 : Nat) : Int)) := ibits_xor32 (n / 2) 3988292384 (by omega) (by decide)
        simp only [putArgs, ↓Z0, ↓Xp, ↓Xt, Xq, Xc, binP, ofCells, Nat.reduceAdd, Nat.reduceMul, Nat.reduceLT, Nat.reduceEqDiff, reduceIte, h2, hrem, hquo, wq, e1, hx]
        refine ⟨nofun, _, rfl, ?_⟩
        simp only [tupV, ↓Z0, ↓Xp, ↓Xt, Xq, Xc, binP, ofCells, Nat.reduceAdd, Nat.reduceMul, Nat.reduceLT, Nat.reduceEqDiff, reduceIte]
        unfold mstep
        rw [if_pos hb]
      · have e1 : (((n % 2 : Nat) : Int) == Int.ofNat 1) = false := by rw [show n % 2 = 0 by omega]; rfl
        simp only [putArgs, ↓Z0, ↓Xp, ↓Xt, Xq, Xc, binP, ofCells, Nat.reduceAdd, Nat.reduceMul, Nat.reduceLT, Nat.reduceEqDiff, reduceIte, h2, hrem, hquo, wq, e1]
        refine ⟨nofun, _, rfl, ?_⟩
        simp only [tupV, ↓Z0, ↓Xp, ↓Xt, Xq, Xc, binP, ofCells, Nat.reduceAdd, Nat.reduceMul, Nat.reduceLT, Nat.reduceEqDiff, reduceIte]
        unfold mstep
        rw [if_neg hb]
    · simp at h
  · simp at h
theorem sumFrom_lt {X L i : Nat} (h : X / 2 ^ i < 4294967296) : sumFrom X L i < 4294967296 := by
  unfold sumFrom
  exact msn_lt h _
set_option maxHeartbeats 8000000 in
set_option maxRecDepth 100000 in
theorem rcrc_ev {cfg : Cfg} (hf : cfg.fn 27 = some m27) (hx : cfg.ext 47 = some gRHalved) {v : PV} {l : List UInt8} (hv : inL v = some l) (hl : l.length ≤ 140737488355328) {fuel : Nat} (hfu : 8 * l.length + 40 ≤ fuel) :
    ∃ r st', evFn cfg (fuel + 1) 27 [v] { sto := .leaf, cnt := 1 } = some (r, st') ∧ r = .i .u32 ((crc l : Nat) : Int) := by
  refine evFn_W hf ?_
  unfold m27
  have hlv := in_len hv
  obtain ⟨L, hL⟩ : ∃ L, 8 * l.length = L := ⟨_, rfl⟩
  have wL : IntKind.i64.wrap (Int.ofNat 8 * (l.length : Int)) = (L : Int) := by
    rw [wr_i64 _ ⟨by show _ ≤ (8 : Int) * _; omega, by show (8 : Int) * _ < _; omega⟩]
    show (8 : Int) * _ = _
    omega
  have w31 : IntKind.i64.wrap ((L : Int) + Int.ofNat 31) = ((L + 32 : Nat) : Int) - 1 := by
    rw [wr_i64 _ ⟨by show _ ≤ (L : Int) + 31; omega, by show (L : Int) + 31 < _; omega⟩]
    show (L : Int) + 31 = _
    omega
  have wL1 : IntKind.i64.wrap ((L : Int) - Int.ofNat 1) = (L : Int) - 1 := wr_i64 _ ⟨by show _ ≤ (L : Int) - 1; omega, by show (L : Int) - 1 < _; omega⟩
  have hX := crc_sum l
  have hXt := sumFrom_top l
  have hXb := crc_bit l
  obtain ⟨X, hXd⟩ : ∃ X, 4294967295 ^^^ pack l = X := ⟨_, rfl⟩
  rw [hXd, hL] at hX hXt
  simp only [hXd, hL] at hXb
  refine Za (fun x => x.env.get 0 = v) ?_ ?_
  · simp only [↓Z0, ↓Xp, ↓Xt, Xq, Xc, binP, ofCells, Nat.reduceAdd, Nat.reduceMul, Nat.reduceLT, Nat.reduceEqDiff, reduceIte, Xm, Nat.reduceLeDiff, putArgs]
    (repeat' (first | exact True.intro | rfl | assumption | omega | apply And.intro | exact St.get_putk _ _ _ | refine ⟨_, rfl, ?_⟩))
  rintro ⟨env, ⟨sto, c⟩⟩ g0
  simp only at g0
  refine Za (fun x => x.env.get 0 = v ∧ x.env.get 3 = .i .u32 (Int.ofNat 0) ∧ x.env.get 4 = .i .u32 (Int.ofNat 1)) ?_ ?_
  · simp only [↓Z0, ↓Xp, ↓Xt, Xq, Xc, binP, ofCells, Nat.reduceAdd, Nat.reduceMul, Nat.reduceLT, Nat.reduceEqDiff, reduceIte, Xm, Nat.reduceLeDiff, g0]
    (repeat' (first | exact True.intro | rfl | assumption | omega | apply And.intro | exact St.get_putk _ _ _ | refine ⟨_, rfl, ?_⟩))
  clear g0
  rintro ⟨env, ⟨sto, c⟩⟩ ⟨g0, g3, g4⟩
  simp only at g0 g3 g4
  -- what is still in the register
  refine Za (fun x => x.env.get 0 = v ∧ x.env.get 3 = .i .u32 ((sumFrom X L L : Nat) : Int) ∧ x.env.get 4 = .i .u32 ((msn 0 1 : Nat) : Int)) ?_ ?_
  · rw [Z0]
    simp only [↓Xp, ↓Xt, Xq, Xc, binP, ofCells, Nat.reduceAdd, Nat.reduceMul, Nat.reduceLT, Nat.reduceEqDiff, reduceIte, g0, hlv, wL, w31]
    refine Z9 (k := L + 32 - L) (fun d x => ∃ j : Nat, L ≤ j ∧ j ≤ L + 32 ∧ d = j - L ∧ x.env.get 0 = v ∧ x.env.get 3 = .i .u32 ((topFrom L j : Nat) : Int) ∧ x.env.get 4 = .i .u32 ((msn 0 1 : Nat) : Int) ∧ x.env.get 5 = .i .i64 ((j : Int) - 1)) ?_ ?_ (by omega)
    · clear g0 g3 g4
      rintro d ⟨env, ⟨sto, c⟩⟩ ⟨j, hj1, hj2, rfl, g0, g3, g4, g5⟩
      simp only at g0 g3 g4 g5
      by_cases hlt : L < j
      · obtain ⟨i, rfl⟩ : ∃ i, j = i + 1 := ⟨j - 1, by omega⟩
        have g5' : env.get 5 = .i .i64 (i : Int) := by rw [g5]; congr 1; omega
        clear g5
        have e1 : (i : Int) ≥ (L : Int) := by omega
        have hs := topFrom_step L i (by omega)
        have wd : IntKind.i64.wrap ((i : Int) - Int.ofNat 1) = (i : Int) - 1 := wr_i64 _ ⟨by show _ ≤ (i : Int) - 1; omega, by show (i : Int) - 1 < _; omega⟩
        by_cases h32 : i < 32
        · have e2 : (i : Int) < Int.ofNat 32 := by show (i : Int) < 32; omega
          rw [if_pos h32] at hs
          obtain ⟨t, ht⟩ : ∃ t, i - L = t := ⟨_, rfl⟩
          rw [ht] at hs
          have wt : IntKind.i64.wrap ((i : Int) - (L : Int)) = (t : Int) := by
            rw [wr_i64 _ ⟨by omega, by omega⟩]; omega
          have ht0 : ¬ ((t : Int) < 0) := by omega
          have hpw : (2 : Nat) ^ t < 4294967296 := by
            have : (2 : Nat) ^ t ≤ 2 ^ 31 := Nat.pow_le_pow_right (by decide) (by omega)
            have e31 : (2 : Nat) ^ 31 = 2147483648 := by decide
            omega
          have hsh : IntKind.u32.wrap (Int.ofNat 1 * 2 ^ (min t IntKind.u32.bits)) = ((2 ^ t : Nat) : Int) := by
            have h1 : Int.ofNat 1 * 2 ^ (min t IntKind.u32.bits) = ((2 ^ t : Nat) : Int) := by
              rw [show min t IntKind.u32.bits = t by show min t 32 = t; omega]
              show (1 : Int) * 2 ^ t = _
              rw [Int.one_mul]; push_cast; rfl
            rw [h1]
            exact wr_u32 _ ⟨Int.natCast_nonneg _, Int.ofNat_lt.2 hpw⟩
          have hxo := ibits_xor32 (topFrom L (i + 1)) (2 ^ t) (topFrom_lt _ _) hpw
          rw [← hs] at hxo
          simp only [↓Z0, ↓Xp, ↓Xt, Xq, Xc, binP, ofCells, Nat.reduceAdd, Nat.reduceMul, Nat.reduceLT, Nat.reduceEqDiff, reduceIte, g0, g3, g4, g5', hlv, wL, e1, e2, wt, ht0, hsh, hxo, wd]
          refine ⟨i - L, by omega, i, ?_⟩
          (repeat' (first | exact True.intro | rfl | assumption | omega | apply And.intro))
        · have e2 : ¬ (i : Int) < Int.ofNat 32 := by show ¬ (i : Int) < 32; omega
          rw [if_neg h32, Nat.xor_zero] at hs
          rw [← hs] at g3
          simp only [↓Z0, ↓Xp, ↓Xt, Xq, Xc, binP, ofCells, Nat.reduceAdd, Nat.reduceMul, Nat.reduceLT, Nat.reduceEqDiff, reduceIte, g0, g3, g4, g5', hlv, wL, e1, e2, wd]
          refine ⟨i - L, by omega, i, ?_⟩
          (repeat' (first | exact True.intro | rfl | assumption | omega | apply And.intro))
      · have hjL : j = L := by omega
        subst hjL
        have e1 : ¬ ((j : Int) - 1 ≥ (j : Int)) := by omega
        rw [topFrom_end, ← hXt] at g3
        simp only [↓Z0, ↓Xp, ↓Xt, Xq, Xc, binP, ofCells, Nat.reduceAdd, Nat.reduceMul, Nat.reduceLT, Nat.reduceEqDiff, reduceIte, g0, g3, g4, g5, hlv, wL, e1]
        (repeat' (first | exact True.intro | rfl | assumption | omega | apply And.intro))
    · refine ⟨L + 32, by omega, Nat.le_refl _, rfl, ?_⟩
      simp only [Env.get_put, Nat.reduceEqDiff, if_false, if_true, g0, g3, g4]
      rw [topFrom_far]
      (repeat' (first | exact True.intro | rfl | assumption | omega | apply And.intro))
  clear g0 g3 g4
  rintro ⟨env, ⟨sto, c⟩⟩ ⟨g0, g3, g4⟩
  simp only at g0 g3 g4
  refine Za (fun x => x.env.get 3 = .i .u32 ((sumFrom X L 0 : Nat) : Int)) ?_ ?_
  · rw [Z0]
    simp only [↓Xp, ↓Xt, Xq, Xc, binP, ofCells, Nat.reduceAdd, Nat.reduceMul, Nat.reduceLT, Nat.reduceEqDiff, reduceIte, g0, hlv, wL, wL1]
    refine Z9 (k := L) (fun d x => d ≤ L ∧ x.env.get 0 = v ∧ sumFrom X L d < 4294967296 ∧ x.env.get 3 = .i .u32 ((sumFrom X L d : Nat) : Int) ∧ x.env.get 4 = .i .u32 ((msn (L - d) 1 : Nat) : Int) ∧ x.env.get 6 = .i .i64 ((d : Int) - 1)) ?_ ?_ (by omega)
    · clear g0 g3 g4
      rintro d ⟨env, ⟨sto, c⟩⟩ ⟨hd, g0, hsl, g3, g4, g6⟩
      simp only at g0 g3 g4 g6
      by_cases hlt : 0 < d
      · obtain ⟨i, rfl⟩ : ∃ i, d = i + 1 := ⟨d - 1, by omega⟩
        have g6' : env.get 6 = .i .i64 (i : Int) := by rw [g6]; congr 1; omega
        clear g6
        have hl0 : l ≠ [] := by intro e; rw [e] at hL; simp at hL; omega
        rw [in_cons hv hl0] at g0 ⊢
        have e1 : (i : Int) ≥ Int.ofNat 0 := by show (i : Int) ≥ 0; omega
        have wd : IntKind.i64.wrap ((i : Int) - Int.ofNat 1) = (i : Int) - 1 := wr_i64 _ ⟨by show _ ≤ (i : Int) - 1; omega, by show (i : Int) - 1 < _; omega⟩
        have hst := sumFrom_step X L i (by omega)
        have hbit := hXb i (by omega)
        have hwl : msn (L - (i + 1)) 1 < 4294967296 := msn_lt (by decide) _
        have hw1 : mstep (msn (L - (i + 1)) 1) = msn (L - i) 1 := by rw [← msn_succ]; congr 1; omega
        have hwl2 : msn (L - i) 1 < 4294967296 := msn_lt (by decide) _
        have hch : ∀ (st : St) key, callStep (runPure cfg (evFn cfg fuel) 47) false st key [.i .u32 ((msn (L - (i + 1)) 1 : Nat) : Int)] = some (.i .u32 ((msn (L - i) 1 : Nat) : Int), st) := by
          intro st key
          refine callStep_flat rfl ?_ rfl
          rw [runPure_ext hx]
          unfold gRHalved
          simp only [Int.toNat_natCast, hw1]
          rw [if_pos ⟨by omega, by omega⟩]
        have h8 : ¬ (Int.ofNat 8 = 0) := by decide
        have h2 : ¬ (Int.ofNat 2 = 0) := by decide
        have hq8 : (i : Int).tdiv (Int.ofNat 8) = ((i / 8 : Nat) : Int) := rfl
        have hr8 : (i : Int).tmod (Int.ofNat 8) = ((i % 8 : Nat) : Int) := rfl
        have wq : IntKind.i64.wrap ((i / 8 : Nat) : Int) = ((i / 8 : Nat) : Int) := wr_i64 _ ⟨by omega, by omega⟩
        have hcl : (ofBytes l).length = l.length * 1 := by rw [len_ofBytes, Nat.mul_one]
        have h0i : 0 ≤ ((i / 8 : Nat) : Int) := by omega
        have hil : ((i / 8 : Nat) : Int) < (l.length : Int) := by omega
        have hld := fun st => load_in (st := st) (l := l) (i := i / 8) (by omega)
        have hbe : bi l (i / 8) = (l.getD (i / 8) 0).toNat := rfl
        rw [hbe] at hbit
        have hbt := (l.getD (i / 8) 0).toNat_lt
        generalize (l.getD (i / 8) 0).toNat = B at *
        have ht0 : ¬ (((i % 8 : Nat) : Int) < 0) := by omega
        have hsh : (B : Int).fdiv (2 ^ (min (i % 8) IntKind.u8.bits)) = ((B / 2 ^ (i % 8) : Nat) : Int) := by
          rw [show min (i % 8) IntKind.u8.bits = i % 8 by show min (i % 8) 8 = _; omega]
          rw [Int.fdiv_eq_ediv_of_nonneg _ (Int.pow_nonneg (by decide))]
          push_cast
          rfl
        have hr2 : ((B / 2 ^ (i % 8) : Nat) : Int).tmod (Int.ofNat 2) = ((B / 2 ^ (i % 8) % 2 : Nat) : Int) := rfl
        have hsl2 : sumFrom X L i < 4294967296 := by
          rw [hst]
          split
          · exact xor_lt32 hsl hwl2
          · rw [Nat.xor_zero]; exact hsl
        have hxo := ibits_xor32 (sumFrom X L (i + 1)) (msn (L - i) 1) hsl hwl2
        generalize B / 2 ^ (i % 8) = Y at *
        have heq1 : eqbP true (.b true) (.b true) = some (.b false) := rfl
        have heq2 : eqbP true (.b true) (.b false) = some (.b true) := rfl
        have heq3 : eqbP true (.b false) (.b true) = some (.b true) := rfl
        have heq4 : eqbP true (.b false) (.b false) = some (.b false) := rfl
        by_cases hY : Y % 2 = 1
        · have e3 : (((Y % 2 : Nat) : Int) == Int.ofNat 1) = true := by rw [hY]; rfl
          by_cases h32 : i < 32
          · have e4 : (i : Int) < Int.ofNat 32 := by show (i : Int) < 32; omega
            rw [if_pos h32] at hbit
            rw [if_neg (by omega), Nat.xor_zero] at hst
            simp only [↓Z0, ↓Xp, ↓Xt, Xq, Xc, binP, ofCells, Nat.reduceAdd, Nat.reduceMul, Nat.reduceLT, Nat.reduceEqDiff, reduceIte, g0, g3, g4, g6', e1, hch, h8, hq8, hr8, wq, hcl, h0i, hil, hld, ht0, hsh, h2, hr2, e3, e4, heq1, wd]
            refine ⟨i, by omega, by omega, ?_⟩
            rw [hst]
            (repeat' (first | exact True.intro | rfl | assumption | omega | apply And.intro))
          · have e4 : ¬ (i : Int) < Int.ofNat 32 := by show ¬ (i : Int) < 32; omega
            rw [if_neg h32] at hbit
            rw [if_pos (by omega)] at hst
            rw [← hst] at hxo
            simp only [↓Z0, ↓Xp, ↓Xt, Xq, Xc, binP, ofCells, Nat.reduceAdd, Nat.reduceMul, Nat.reduceLT, Nat.reduceEqDiff, reduceIte, g0, g3, g4, g6', e1, hch, h8, hq8, hr8, wq, hcl, h0i, hil, hld, ht0, hsh, h2, hr2, e3, e4, heq2, hxo, wd]
            refine ⟨i, by omega, by omega, ?_⟩
            (repeat' (first | exact True.intro | rfl | assumption | omega | apply And.intro))
        · have e3 : (((Y % 2 : Nat) : Int) == Int.ofNat 1) = false := by rw [show Y % 2 = 0 by omega]; rfl
          by_cases h32 : i < 32
          · have e4 : (i : Int) < Int.ofNat 32 := by show (i : Int) < 32; omega
            rw [if_pos h32] at hbit
            rw [if_pos (by omega)] at hst
            rw [← hst] at hxo
            simp only [↓Z0, ↓Xp, ↓Xt, Xq, Xc, binP, ofCells, Nat.reduceAdd, Nat.reduceMul, Nat.reduceLT, Nat.reduceEqDiff, reduceIte, g0, g3, g4, g6', e1, hch, h8, hq8, hr8, wq, hcl, h0i, hil, hld, ht0, hsh, h2, hr2, e3, e4, heq3, hxo, wd]
            refine ⟨i, by omega, by omega, ?_⟩
            (repeat' (first | exact True.intro | rfl | assumption | omega | apply And.intro))
          · have e4 : ¬ (i : Int) < Int.ofNat 32 := by show ¬ (i : Int) < 32; omega
            rw [if_neg h32] at hbit
            rw [if_neg (by omega), Nat.xor_zero] at hst
            simp only [↓Z0, ↓Xp, ↓Xt, Xq, Xc, binP, ofCells, Nat.reduceAdd, Nat.reduceMul, Nat.reduceLT, Nat.reduceEqDiff, reduceIte, g0, g3, g4, g6', e1, hch, h8, hq8, hr8, wq, hcl, h0i, hil, hld, ht0, hsh, h2, hr2, e3, e4, heq4, wd]
            refine ⟨i, by omega, by omega, ?_⟩
            rw [hst]
            (repeat' (first | exact True.intro | rfl | assumption | omega | apply And.intro))
      · have hd0 : d = 0 := by omega
        subst hd0
        have e1 : ¬ (((0 : Nat) : Int) - 1 ≥ Int.ofNat 0) := by decide
        simp only [↓Z0, ↓Xp, ↓Xt, Xq, Xc, binP, ofCells, Nat.reduceAdd, Nat.reduceMul, Nat.reduceLT, Nat.reduceEqDiff, reduceIte, g0, g3, g4, g6, e1]
    · simp only [Env.get_put, Nat.reduceEqDiff, if_false, if_true, g0, g3, g4, Nat.sub_self]
      refine ⟨Nat.le_refl _, trivial, ?_, ?_⟩
      · rw [hXt]
        exact Nat.lt_of_le_of_lt (Nat.div_le_self _ _) (by decide)
      · (repeat' (first | exact True.intro | rfl | assumption | omega | apply And.intro))
  clear g0 g3 g4
  rintro ⟨env, st1⟩ g3
  simp only at g3
  have hcr := crc_lt l
  have w4 : IntKind.u32.wrap (Int.ofNat 4294967295 - ((sumFrom X L 0 : Nat) : Int)) = ((crc l : Nat) : Int) := by
    rw [hX]
    have h1 := crcReg_lt l (r := 4294967295) (by decide)
    rw [wr_u32 _ ⟨by show 0 ≤ (4294967295 : Int) - _; omega, by show (4294967295 : Int) - _ < _; omega⟩]
    unfold crc
    show (4294967295 : Int) - _ = _
    omega
  simp only [↓Z0, ↓Xp, ↓Xt, Xq, Xc, binP, ofCells, Nat.reduceAdd, Nat.reduceMul, Nat.reduceLT, Nat.reduceEqDiff, reduceIte, g3, w4]
  refine ⟨nofun, _, rfl, ?_⟩
  simp only [tupV, ↓Z0, ↓Xp, ↓Xt, Xq, Xc, binP, ofCells, Nat.reduceAdd, Nat.reduceMul, Nat.reduceLT, Nat.reduceEqDiff, reduceIte]
def gRCrc : List PV → Option PV
  | [v] => match inL v with
    | some l => if l.length ≤ 140737488355328 then some (.i .u32 ((crc l : Nat) : Int)) else none
    | none => none
  | _ => none
def extR3 : FuncId → Option (List PV → Option PV) := fun f => if f = 47 then some gRHalved else none
noncomputable def cfgR3 : Cfg := { fn := fun f => lookT f tblL, ext := extR3 }
theorem cfgR3_ok {Gl : Gmap} : CfgOK Go.Proofs.Try.prog Gl cfgR3 := by
  refine cfg_okt tbl_all ?_
  intro f g h
  unfold extR3 at h
  split at h
  · rename_i e; simp only [Option.some.injEq] at h; subst h; subst e
    exact pure_of cfgR0_ok halved_any
  · simp at h
theorem rcrc_any (args : List PV) (r : PV) (h : gRCrc args = some r) : ∃ fuel, evP cfgR3 fuel 27 args = some r := by
  unfold gRCrc at h
  split at h
  · rename_i v
    split at h
    · rename_i l hl
      split at h
      · rename_i hc
        simp only [Option.some.injEq] at h
        subst h
        exact ⟨8 * l.length + 40 + 1, ev_flat (by kernel_rfl) (open_in hl) (fun _ => rfl) (rcrc_ev (cfg := cfgR3) (by kernel_rfl) (by kernel_rfl) hl hc (Nat.le_refl _))⟩
      · simp at h
    · simp at h
  · simp at h
def extR4 : FuncId → Option (List PV → Option PV) := fun f => if f = 27 then some gRCrc else if f = 46 then some gRAfter else none
noncomputable def cfgR4 : Cfg := { fn := fun f => lookT f tblL, ext := extR4 }
theorem cfgR4_ok {Gl : Gmap} : CfgOK Go.Proofs.Try.prog Gl cfgR4 := by
  refine cfg_okt tbl_all ?_
  intro f g h
  unfold extR4 at h
  split at h
  · rename_i e; simp only [Option.some.injEq] at h; subst h; subst e
    exact pure_of cfgR3_ok rcrc_any
  split at h
  · rename_i e; simp only [Option.some.injEq] at h; subst h; subst e
    exact pure_of cfgR0_ok after_any
  · simp at h
def part4 (l : List UInt8) (s j : Nat) : List UInt8 := l ++ (List.replicate (4 - j) 0 ++ (be4 s).drop (4 - j))
theorem part4_len (l : List UInt8) (s j : Nat) (h : j ≤ 4) : (part4 l s j).length = l.length + 4 := by
  have h4 : (be4 s).length = 4 := rfl
  unfold part4
  simp only [List.length_append, List.length_replicate, List.length_drop, h4]
  omega
theorem part4_set (l : List UInt8) (s j : Nat) (h : j < 4) : (part4 l s j).set (l.length + (3 - j)) (UInt8.ofNat (s / 256 ^ j % 256)) = part4 l s (j + 1) := by
  have hm : ∀ x : Nat, UInt8.ofNat (x % 256) = UInt8.ofNat x := by
    intro x
    apply UInt8.toNat_inj.1
    rw [UInt8.toNat_ofNat', UInt8.toNat_ofNat']; omega
  unfold part4
  rw [List.set_append_right _ _ (by omega), Nat.add_sub_cancel_left, hm]
  congr 1
  have hj : j = 0 ∨ j = 1 ∨ j = 2 ∨ j = 3 := by omega
  rcases hj with rfl | rfl | rfl | rfl
  · show [0, 0, 0, UInt8.ofNat (s / 256 ^ 0)] = [0, 0, 0, UInt8.ofNat s]
    rw [Nat.pow_zero, Nat.div_one]
  · show [0, 0, UInt8.ofNat (s / 256 ^ 1), UInt8.ofNat s] = [0, 0, UInt8.ofNat (s / 256), UInt8.ofNat s]
    rw [Nat.pow_one]
  · rfl
  · rfl
set_option maxHeartbeats 8000000 in
theorem rseal_ev {cfg : Cfg} (hf : cfg.fn 28 = some m28) (hx1 : cfg.ext 27 = some gRCrc) (hx2 : cfg.ext 46 = some gRAfter) {v : PV} {l : List UInt8} (hv : inL v = some l) (hl : l.length + 4 ≤ 140737488355328) {fuel : Nat} (hfu : 6 ≤ fuel) :
    ∃ r st', evFn cfg (fuel + 1) 28 [v] { sto := .leaf, cnt := 1 } = some (r, st') ∧ ∃ q, r = .rsl q 1 0 (sealB l).length ∧ st'.get q = some (.cells (ofBytes (sealB l)) false) := by
  refine evFn_W hf ?_
  unfold m28
  have hlv := in_len hv
  have hlr : ∀ (a b c n : Nat), lenP (.rsl a b c n) = some (.i .i64 n) := fun _ _ _ _ => rfl
  have hcl := crc_lt l
  have hcc : ∀ (st : St) key, callStep (runPure cfg (evFn cfg fuel) 27) false st key [v] = some (.i .u32 ((crc l : Nat) : Int), st) := by
    intro st key
    refine callStep_flat (by simp only [List.all_cons, in_flat hv, List.all_nil, Bool.and_self]) ?_ rfl
    rw [runPure_ext hx1]
    unfold gRCrc
    simp only [hv]
    rw [if_pos (by omega)]
  have hsb : sealB l = part4 l (crc l) 4 := by
    show l ++ be4 (crc l) = l ++ (List.replicate 0 0 ++ (be4 (crc l)).drop 0)
    rfl
  have hp0 : l ++ [0, 0, 0, 0] = part4 l (crc l) 0 := rfl
  rw [hsb]
  generalize crc l = s at *
  have hpl : ∀ j, j ≤ 4 → (part4 l s j).length = l.length + 4 := fun j hj => part4_len l s j hj
  have hps : ∀ j, j < 4 → (part4 l s j).set (l.length + (3 - j)) (UInt8.ofNat (s / 256 ^ j % 256)) = part4 l s (j + 1) := fun j hj => part4_set l s j hj
  have hca : ∀ (S : St) (key key2 : Nat), callStep (runPure cfg (evFn cfg fuel) 46) false (S.put key (some (.cells [.i .u8 (Int.ofNat 0), .i .u8 (Int.ofNat 0), .i .u8 (Int.ofNat 0), .i .u8 (Int.ofNat 0)] false))) key2 [v, .rsl key 1 0 4] = some (.rsl key2 1 0 (part4 l s 0).length, (S.put key (some (.cells [.i .u8 (Int.ofNat 0), .i .u8 (Int.ofNat 0), .i .u8 (Int.ofNat 0), .i .u8 (Int.ofNat 0)] false))).put key2 (some (.cells (ofBytes (part4 l s 0)) false))) := by
    intro S key key2
    rw [← hp0]
    exact r_after hx2 (v' := v) (w' := .fsl 4 (ofBytes [0, 0, 0, 0])) (deep_2 (deep_in hv) (deep_b (m := [0, 0, 0, 0]) (St.get_putk S key _))) hv (in_fsl [0, 0, 0, 0]) (by show l.length + 4 ≤ _; omega)
  have hp4 := hpl 0 (by omega)
  rw [hp4] at hca
  obtain ⟨P, hP⟩ : ∃ P, part4 l s = P := ⟨_, rfl⟩
  simp only [hP] at hpl hps hca ⊢
  refine Za (fun x => x.env.get 0 = v) ?_ ?_
  · simp only [↓Z0, ↓Xp, ↓Xt, Xq, Xc, binP, ofCells, Nat.reduceAdd, Nat.reduceMul, Nat.reduceLT, Nat.reduceEqDiff, reduceIte, Xm, Nat.reduceLeDiff, putArgs]
    (repeat' (first | exact True.intro | rfl | assumption | omega | apply And.intro | exact St.get_putk _ _ _ | refine ⟨_, rfl, ?_⟩))
  rintro ⟨env, ⟨sto, c⟩⟩ g0
  simp only at g0
  obtain ⟨q, hq⟩ : ∃ q, q = c + 16 := ⟨_, rfl⟩
  have hq' : c + 16 = q := hq.symm
  refine Za (fun x => x.env.get 0 = v ∧ x.env.get 3 = .rsl q 1 0 (l.length + 4) ∧ x.st.get q = some (.cells (ofBytes (P 0)) false)) ?_ ?_
  · simp only [↓Z0, ↓Xp, ↓Xt, Xq, Xc, binP, ofCells, Nat.reduceAdd, Nat.reduceMul, Nat.reduceLT, Nat.reduceEqDiff, reduceIte, Xm, Nat.reduceLeDiff, g0, hca, hq']
    (repeat' (first | exact True.intro | rfl | assumption | omega | apply And.intro | exact St.get_putk _ _ _ | refine ⟨_, rfl, ?_⟩))
  clear g0
  rintro ⟨env, ⟨sto, c⟩⟩ ⟨g0, g3, kq⟩
  simp only at g0 g3 kq
  replace kq : ∀ n, St.get ⟨sto, n⟩ q = some (.cells (ofBytes (P 0)) false) := fun _ => kq
  clear hq hq'
  refine Za (fun x => x.env.get 0 = v ∧ x.env.get 3 = .rsl q 1 0 (l.length + 4) ∧ x.st.get q = some (.cells (ofBytes (P 0)) false) ∧ x.env.get 4 = .i .u32 (s : Int)) ?_ ?_
  · simp only [↓Z0, ↓Xp, ↓Xt, Xq, Xc, binP, ofCells, Nat.reduceAdd, Nat.reduceMul, Nat.reduceLT, Nat.reduceEqDiff, reduceIte, Xm, Nat.reduceLeDiff, g0, g3, kq, hcc]
    (repeat' (first | exact True.intro | rfl | assumption | omega | apply And.intro | exact St.get_putk _ _ _ | refine ⟨_, rfl, ?_⟩))
  clear g0 g3 kq
  rintro ⟨env, ⟨sto, c⟩⟩ ⟨g0, g3, kq, g4⟩
  simp only at g0 g3 kq g4
  replace kq : ∀ n, St.get ⟨sto, n⟩ q = some (.cells (ofBytes (P 0)) false) := fun _ => kq
  refine Za (fun x => x.env.get 3 = .rsl q 1 0 (l.length + 4) ∧ x.st.get q = some (.cells (ofBytes (P 4)) false)) ?_ ?_
  · have w1 : IntKind.i64.wrap (((l.length + 4 : Nat) : Int) - Int.ofNat 1) = ((l.length + 4 : Nat) : Int) - 1 := wr_i64 _ ⟨by show _ ≤ ((l.length + 4 : Nat) : Int) - 1; omega, by show ((l.length + 4 : Nat) : Int) - 1 < _; omega⟩
    rw [Z0]
    simp only [↓Xp, ↓Xt, Xq, Xc, binP, ofCells, Nat.reduceAdd, Nat.reduceMul, Nat.reduceLT, Nat.reduceEqDiff, reduceIte, g0, g3, kq, g4, hlr, w1]
    refine Z9 (k := 4 - 0) (fun d x => ∃ j : Nat, j ≤ 4 ∧ d = 4 - j ∧ x.env.get 0 = v ∧ x.env.get 3 = .rsl q 1 0 (l.length + 4) ∧ x.env.get 4 = .i .u32 ((s / 256 ^ j : Nat) : Int) ∧ x.env.get 5 = .i .i64 (((l.length + 4 - j : Nat) : Int) - 1) ∧ x.st.get q = some (.cells (ofBytes (P j)) false)) ?_ ?_ (by omega)
    · skip
      clear g0 g3 kq g4
      clear w1
      rintro d ⟨env, ⟨sto, c⟩⟩ ⟨j, hj, rfl, g0, g3, g4, g5, kq⟩
      simp only at g0 g3 g4 g5 kq
      have hlj := hpl j hj
      by_cases hlt : j < 4
      · obtain ⟨i, hi⟩ : ∃ i, l.length + (3 - j) = i := ⟨_, rfl⟩
        have g5' : env.get 5 = .i .i64 (i : Int) := by rw [g5]; congr 1; omega
        clear g5
        have e1 : (i : Int) ≥ (l.length : Int) := by omega
        have wd : IntKind.i64.wrap ((i : Int) - Int.ofNat 1) = (i : Int) - 1 := wr_i64 _ ⟨by show _ ≤ (i : Int) - 1; omega, by show (i : Int) - 1 < _; omega⟩
        have h256 : ¬ (Int.ofNat 256 = 0) := by decide
        have hs := hps j hlt
        rw [hi] at hs
        have hsj : s / 256 ^ j / 256 = s / 256 ^ (j + 1) := by rw [Nat.pow_succ, Nat.div_div_eq_div_mul]
        have hs32 : s / 256 ^ j < 4294967296 := Nat.lt_of_le_of_lt (Nat.div_le_self _ _) hcl
        generalize s / 256 ^ j = u at *
        obtain ⟨u2, hu2⟩ : ∃ u2, s / 256 ^ (j + 1) = u2 := ⟨_, rfl⟩
        rw [hu2] at hsj
        have hrem : (u : Int).tmod (Int.ofNat 256) = ((u % 256 : Nat) : Int) := rfl
        have hquo : (u : Int).tdiv (Int.ofNat 256) = (u2 : Int) := by rw [← hsj]; rfl
        have wq : IntKind.u32.wrap (u2 : Int) = (u2 : Int) := wr_u32 _ ⟨by omega, by omega⟩
        have w8 := wr_u8n (u % 256)
        have h0i : 0 ≤ (i : Int) := by omega
        have hil : (i : Int) < ((l.length + 4 : Nat) : Int) := by omega
        have hsto := fun n => store_byte (st := ⟨sto, n⟩) kq (i := i) (by omega) (UInt8.ofNat (u % 256))
        rw [hs] at hsto
        simp only [↓Z0, ↓Xp, ↓Xt, Xq, Xc, binP, ofCells, Nat.reduceAdd, Nat.reduceMul, Nat.reduceLT, Nat.reduceEqDiff, reduceIte, g0, g3, g4, g5', hlv, e1, h256, hrem, hquo, wq, w8, h0i, hil, hsto, wd]
        refine ⟨4 - (j + 1), by omega, j + 1, by omega, rfl, ?_⟩
        have e5 : (i : Int) - 1 = ((l.length + 4 - (j + 1) : Nat) : Int) - 1 := by omega
        simp only [e5, hu2]
        (repeat' (first | exact True.intro | rfl | assumption | omega | apply And.intro | exact St.get_putk _ _ _ | refine ⟨_, rfl, ?_⟩))
      · have hj4 : j = 4 := by omega
        subst hj4
        have g5' : env.get 5 = .i .i64 ((l.length : Int) - 1) := g5
        have e1 : ¬ ((l.length : Int) - 1 ≥ (l.length : Int)) := by omega
        simp only [↓Z0, ↓Xp, ↓Xt, Xq, Xc, binP, ofCells, Nat.reduceAdd, Nat.reduceMul, Nat.reduceLT, Nat.reduceEqDiff, reduceIte, g0, g3, g4, g5', hlv, e1]
        (repeat' (first | exact True.intro | rfl | assumption | omega | apply And.intro))
    · refine ⟨0, Nat.zero_le _, rfl, ?_⟩
      simp only [Env.get_put, Nat.reduceEqDiff, if_false, if_true, g0, g3, kq, g4, Nat.pow_zero, Nat.div_one, Nat.sub_zero]
      (repeat' (first | exact True.intro | rfl | assumption | omega | apply And.intro | exact St.get_putk _ _ _ | (simp only [Z0L_, Z0M_]; omega) | (simp (disch := omega) only [Z0H_, Z0I_, Z0J_, kq]; done) | refine ⟨_, rfl, ?_⟩))
  rintro ⟨env, st1⟩ ⟨g3, kq⟩
  simp only at g3 kq
  simp only [↓Z0, ↓Xp, ↓Xt, Xq, Xc, binP, ofCells, Nat.reduceAdd, Nat.reduceMul, Nat.reduceLT, Nat.reduceEqDiff, reduceIte, g3]
  refine ⟨nofun, _, rfl, q, ?_, kq⟩
  simp only [tupV, ↓Z0, ↓Xp, ↓Xt, Xq, Xc, binP, ofCells, Nat.reduceAdd, Nat.reduceMul, Nat.reduceLT, Nat.reduceEqDiff, reduceIte, hpl 4 (Nat.le_refl _)]
def gRSeal : List PV → Option PV
  | [v] => match inL v with
    | some l => if l.length + 4 ≤ 140737488355328 then some (.osl 1 (sealB l).length (ofBytes (sealB l))) else none
    | none => none
  | _ => none
theorem rseal_any (args : List PV) (r : PV) (h : gRSeal args = some r) : ∃ fuel, evP cfgR4 fuel 28 args = some r := by
  unfold gRSeal at h
  split at h
  · rename_i v
    split at h
    · rename_i l hl
      split at h
      · rename_i hc
        simp only [Option.some.injEq] at h
        subst h
        obtain ⟨r, st', h1, q, h2, h3⟩ := rseal_ev (cfg := cfgR4) (by kernel_rfl) (by kernel_rfl) (by kernel_rfl) hl hc (fuel := 6) (Nat.le_refl _)
        exact ⟨6 + 1, evP_of (by kernel_rfl) (open_in hl) ⟨r, st', h1, by rw [h2]; exact close_bytes h3⟩⟩
      · simp at h
    · simp at h
  · simp at h
end Go.Pe
set_option linter.unusedVariables false
set_option linter.unusedSimpArgs false
namespace Go.Pe
open Go Go.Am Go.RowKit

theorem getU_found {l : List UInt8} {a k : Nat} (ha : a ≤ l.length) (hk1 : 1 ≤ k) (hk : k ≤ (l.drop a).length) (h : isNum ((l.drop a).take k) = true) : getU l (a : Int) = (weighsN ((l.drop a).take k), ((a + k : Nat) : Int), 0) := by
  have hp := isNum_parse hk h
  unfold getU
  rw [if_neg (by omega), Int.toNat_natCast, hp]
  simp only []
  rw [if_neg (by omega), if_neg (by omega)]
  rfl
theorem none_parse {r : List UInt8} {k : Nat} (hk : 10 < k ∨ r.length < k) (h : ∀ j, 1 ≤ j → j < k → isNum (r.take j) = false) : (parse r).2 ≤ 0 := by
  rcases Int.lt_or_le 0 (parse r).2 with h0 | h0
  · exfalso
    obtain ⟨j, _, h1, h2, h3, h4, _⟩ := parse_isNum (r := r) (v := (parse r).1) (j := (parse r).2) rfl h0
    rw [h j h1 (by omega)] at h4
    cases h4
  · exact h0
theorem getU_none {l : List UInt8} {a : Nat} (ha : a ≤ l.length) (h : (parse (l.drop a)).2 ≤ 0) : getU l (a : Int) = (0, 0, if decide ((l.drop a).length + 1 ≤ 10) && isNum (l.drop a ++ [1]) then 11 else 10) := by
  unfold getU
  rw [if_neg (by omega), Int.toNat_natCast, isNum_begin h]
  by_cases h0 : (parse (l.drop a)).2 = 0
  · rw [if_pos h0, decide_eq_true h0]; rfl
  · rw [if_neg h0, if_pos (by omega), decide_eq_false h0]; rfl
theorem cells_put (S : St) (key : Nat) (L : List UInt8) : cellsOf (S.put key (some (.cells (ofBytes L) false))) 1 (.rsl key 1 0 L.length) = some (L.length, ofBytes L) := cells_at (St.get_putk _ _ _)
theorem recv_bytes (st : St) (key : Nat) (L : List UInt8) : recvRes st key (.osl 1 L.length (ofBytes L)) = some (.rsl key 1 0 L.length, st.put key (some (.cells (ofBytes L) false))) := rfl
theorem recv_i (st : St) (key : Nat) (k : IntKind) (n : Int) : recvRes st key (.i k n) = some (.i k n, st) := rfl
theorem closed_i (k : IntKind) (n : Int) : (PV.i k n).closedB = true := rfl
set_option maxHeartbeats 8000000 in
set_option maxRecDepth 100000 in
theorem rgetu_ev {cfg : Cfg} (hf : cfg.fn 23 = some m23) (hx1 : cfg.ext 45 = some gRVar) (hx2 : cfg.ext 46 = some gRAfter) (hx3 : cfg.ext 44 = some gRWeighs) {v : PV} {l : List UInt8} (hv : inL v = some l) (hl : l.length ≤ 140737488355327) {a : Int} {fuel : Nat} (hfu : 12 ≤ fuel) :
    ∃ r st', evFn cfg (fuel + 1) 23 [v, .i .i64 a] { sto := .leaf, cnt := 1 } = some (r, st') ∧ r = getT (getU l a) := by
  refine evFn_W hf ?_
  unfold m23
  have hlv := in_len hv
  by_cases h1 : a < 0
  · have e1 : a < Int.ofNat 0 := h1
    have hg : getU l a = (0, 0, 2) := by unfold getU; rw [if_pos (.inl h1)]
    simp only [putArgs, ↓Z0, ↓Xp, ↓Xt, Xq, Xc, binP, ofCells, Nat.reduceAdd, Nat.reduceMul, Nat.reduceLT, Nat.reduceEqDiff, reduceIte, e1]
    refine ⟨nofun, _, rfl, ?_⟩
    rw [hg]
    simp only [tupV, ↓Z0, ↓Xp, ↓Xt, Xq, Xc, binP, ofCells, Nat.reduceAdd, Nat.reduceMul, Nat.reduceLT, Nat.reduceEqDiff, reduceIte]
    rfl
  have e1 : ¬ a < Int.ofNat 0 := h1
  by_cases h2 : (l.length : Int) < a
  · have e2 : a > (l.length : Int) := h2
    have hg : getU l a = (0, 0, 2) := by unfold getU; rw [if_pos (.inr h2)]
    simp only [putArgs, ↓Z0, ↓Xp, ↓Xt, Xq, Xc, binP, ofCells, Nat.reduceAdd, Nat.reduceMul, Nat.reduceLT, Nat.reduceEqDiff, reduceIte, e1, e2, hlv]
    refine ⟨nofun, _, rfl, ?_⟩
    rw [hg]
    simp only [tupV, ↓Z0, ↓Xp, ↓Xt, Xq, Xc, binP, ofCells, Nat.reduceAdd, Nat.reduceMul, Nat.reduceLT, Nat.reduceEqDiff, reduceIte]
    rfl
  have e2 : ¬ a > (l.length : Int) := h2
  obtain ⟨at0, rfl⟩ : ∃ n : Nat, a = (n : Int) := ⟨a.toNat, by omega⟩
  have ha : at0 ≤ l.length := by omega
  obtain ⟨v2, hsl, hv2⟩ := slice_in hv ha
  have hfound := fun k h1 h2 h3 => getU_found (k := k) ha h1 h2 h3
  have hnone := getU_none (l := l) ha
  have hrl : (l.drop at0).length ≤ 140737488355327 := by rw [List.length_drop]; omega
  have hak : ∀ k, k ≤ (l.drop at0).length → at0 + k ≤ l.length := by intro k hk; rw [List.length_drop] at hk; omega
  generalize l.drop at0 = r at *
  generalize getU l (at0 : Int) = G at *
  have hlr := in_len hv2
  have hlrr : ∀ (a b c n : Nat), lenP (.rsl a b c n) = some (.i .i64 n) := fun _ _ _ _ => rfl
  have hcw : ∀ (L : List UInt8) (w : PV) (st : St) key, inL w = some L → callStep (runPure cfg (evFn cfg fuel) 44) false st key [w] = some (.i .u64 (weighsN L), st) := by
    intro L w st key hw
    refine callStep_flat (by simp only [List.all_cons, in_flat hw, List.all_nil, Bool.and_self]) ?_ rfl
    rw [runPure_ext hx3]
    unfold gRWeighs
    simp only [hw]
  have hqv : ∀ n : Nat, n < 18446744073709551616 → runPure cfg (evFn cfg fuel) 45 [.i .u64 (n : Int)] = some (.osl 1 (varint n).length (ofBytes (varint n))) := by
    intro n hn
    rw [runPure_ext hx1]
    unfold gRVar
    simp only [Int.toNat_natCast]
    rw [if_pos ⟨by omega, by omega⟩]
  have hqw : ∀ L : List UInt8, runPure cfg (evFn cfg fuel) 44 [.fsl L.length (ofBytes L)] = some (.i .u64 (weighsN L)) := by
    intro L
    rw [runPure_ext hx3]
    unfold gRWeighs
    simp only [in_fsl]
  have hd1 : ∀ (st : St) (n : Int), deepL st [.i .u64 n] = some [.i .u64 n] := fun st n => deep_1 (deep_i _ _ _)
  refine Za (fun x => x.env.get 0 = v ∧ x.env.get 1 = .i .i64 (at0 : Int)) ?_ ?_
  · simp only [↓Z0, ↓Xp, ↓Xt, Xq, Xc, binP, ofCells, Nat.reduceAdd, Nat.reduceMul, Nat.reduceLT, Nat.reduceEqDiff, reduceIte, Xm, Nat.reduceLeDiff, putArgs]
    (repeat' (first | exact True.intro | rfl | assumption | omega | apply And.intro | exact St.get_putk _ _ _ | refine ⟨_, rfl, ?_⟩))
  rintro ⟨env, ⟨sto, c⟩⟩ ⟨g0, g1⟩
  simp only at g0 g1
  refine Za (fun x => x.env.get 0 = v ∧ x.env.get 1 = .i .i64 (at0 : Int)) ?_ ?_
  · simp only [↓Z0, ↓Xp, ↓Xt, Xq, Xc, binP, ofCells, Nat.reduceAdd, Nat.reduceMul, Nat.reduceLT, Nat.reduceEqDiff, reduceIte, Xm, Nat.reduceLeDiff, g0, g1, e1, e2, hlv]
    (repeat' (first | exact True.intro | rfl | assumption | omega | apply And.intro | exact St.get_putk _ _ _ | refine ⟨_, rfl, ?_⟩))
  clear g0 g1
  rintro ⟨env, ⟨sto, c⟩⟩ ⟨g0, g1⟩
  simp only at g0 g1
  refine Za (fun x => x.env.get 0 = v ∧ x.env.get 1 = .i .i64 (at0 : Int) ∧ x.env.get 7 = v2) ?_ ?_
  · simp only [↓Z0, ↓Xp, ↓Xt, Xq, Xc, binP, ofCells, Nat.reduceAdd, Nat.reduceMul, Nat.reduceLT, Nat.reduceEqDiff, reduceIte, Xm, Nat.reduceLeDiff, g0, g1, hsl]
    (repeat' (first | exact True.intro | rfl | assumption | omega | apply And.intro | exact St.get_putk _ _ _ | refine ⟨_, rfl, ?_⟩))
  clear g0 g1
  rintro ⟨env, ⟨sto, c⟩⟩ ⟨g0, g1, g7⟩
  simp only at g0 g1 g7
  -- the search
  refine WC_cutR (fun x => x.env.get 7 = v2 ∧ (parse r).2 ≤ 0) ?_ ?_
  · rw [Z0]
    simp only [↓Xp, ↓Xt, Xq, Xc, binP, ofCells, Nat.reduceAdd, Nat.reduceMul, Nat.reduceLT, Nat.reduceEqDiff, reduceIte, g0, g1, g7]
    refine Z9 (k := 11 - 1) (fun d x => ∃ k : Nat, 1 ≤ k ∧ k ≤ 11 ∧ d = 11 - k ∧ (∀ j, 1 ≤ j → j < k → isNum (r.take j) = false) ∧ x.env.get 1 = .i .i64 (at0 : Int) ∧ x.env.get 7 = v2 ∧ x.env.get 8 = .i .i64 (k : Int)) ?_ ?_ (by omega)
    · skip
      clear g0 g1 g7
      rintro d ⟨env, ⟨sto, c⟩⟩ ⟨k, hk1, hk11, rfl, hall, g1, g7, g8⟩
      simp only at g1 g7 g8
      by_cases hk : k ≤ 10 ∧ k ≤ r.length
      · have e3 : (k : Int) ≤ Int.ofNat 10 := by show (k : Int) ≤ 10; omega
        have e4 : (k : Int) ≤ (r.length : Int) := by omega
        have hr0 : r ≠ [] := by intro e; rw [e] at hk; simp at hk; omega
        have hup := upto_in hv2 hk.2 hr0
        have hin := in_take (l := r) hk.2
        have hcw1 := fun st key => hcw _ _ st key hin
        have hcin := fun st => cells_in (st := st) hin
        obtain ⟨T, hT⟩ : ∃ T, r.take k = T := ⟨_, rfl⟩
        have hTl : T.length = k := by rw [← hT, List.length_take]; omega
        have hfk := hfound k hk1 hk.2
        rw [hT] at hup hcin hfk
        simp only [hT] at hcw1
        have hwl := weighsN_lt T
        have hqv1 := hqv _ hwl
        have hco := closed_osl (varint (weighsN T)).length (varint (weighsN T))
        refine Za (fun x => x.env.get 1 = .i .i64 (at0 : Int) ∧ x.env.get 7 = v2 ∧ x.env.get 8 = .i .i64 (k : Int)) ?_ ?_
        · simp only [↓Z0, ↓Xp, ↓Xt, Xq, Xc, binP, ofCells, Nat.reduceAdd, Nat.reduceMul, Nat.reduceLT, Nat.reduceEqDiff, reduceIte, Xm, Nat.reduceLeDiff, g1, g7, g8, e3, e4, hlr]
          (repeat' (first | exact True.intro | rfl | assumption | omega | apply And.intro | exact St.get_putk _ _ _ | refine ⟨_, rfl, ?_⟩))
        clear g1 g7 g8
        rintro ⟨env, ⟨sto, c⟩⟩ ⟨g1, g7, g8⟩
        simp only at g1 g7 g8
        rw [Z0]
        simp only [↓Xp, ↓Xt, Xq, Xc, binP, ofCells, Nat.reduceAdd, Nat.reduceMul, Nat.reduceLT, Nat.reduceEqDiff, reduceIte]
        refine Za (fun x => x.env.get 1 = .i .i64 (at0 : Int) ∧ x.env.get 7 = v2 ∧ x.env.get 8 = .i .i64 (k : Int) ∧ x.env.get 9 = .i .u64 (weighsN T : Int)) ?_ ?_
        · simp only [↓Z0, ↓Xp, ↓Xt, Xq, Xc, binP, ofCells, Nat.reduceAdd, Nat.reduceMul, Nat.reduceLT, Nat.reduceEqDiff, reduceIte, Xm, Nat.reduceLeDiff, g1, g7, g8, hup, hcw1]
          (repeat' (first | exact True.intro | rfl | assumption | omega | apply And.intro | exact St.get_putk _ _ _ | refine ⟨_, rfl, ?_⟩))
        clear g1 g7 g8
        rintro ⟨env, ⟨sto, c⟩⟩ ⟨g1, g7, g8, g9⟩
        simp only at g1 g7 g8 g9
        by_cases hnum : isNum T = true
        · have e5 : (varint (weighsN T) == T) = true := hnum
          have wk : IntKind.i64.wrap ((at0 : Int) + (k : Int)) = ((at0 + k : Nat) : Int) := by
            have := hak k hk.2
            rw [wr_i64 _ ⟨by omega, by omega⟩]; rfl
          have hG := hfk hnum
          simp only [↓Z0, ↓Xp, ↓Xt, Xq, Xc, binP, ofCells, Nat.reduceAdd, Nat.reduceMul, Nat.reduceLT, Nat.reduceEqDiff, reduceIte, g1, g7, g8, g9, hd1, hqv1, hco, recv_bytes, cells_put, bytesOf_of, hup, hcin, e5, wk]
          refine ⟨nofun, _, rfl, ?_⟩
          rw [hG]
          simp only [tupV, ↓Z0, ↓Xp, ↓Xt, Xq, Xc, binP, ofCells, Nat.reduceAdd, Nat.reduceMul, Nat.reduceLT, Nat.reduceEqDiff, reduceIte]
          rfl
        · have e5 : (varint (weighsN T) == T) = false := by simpa [isNum] using hnum
          have wk : IntKind.i64.wrap ((k : Int) + Int.ofNat 1) = ((k + 1 : Nat) : Int) := by
            rw [wr_i64 _ ⟨by show _ ≤ (k : Int) + 1; omega, by show (k : Int) + 1 < _; omega⟩]; rfl
          simp only [↓Z0, ↓Xp, ↓Xt, Xq, Xc, binP, ofCells, Nat.reduceAdd, Nat.reduceMul, Nat.reduceLT, Nat.reduceEqDiff, reduceIte, g1, g7, g8, g9, hd1, hqv1, hco, recv_bytes, cells_put, bytesOf_of, hup, hcin, e5, wk]
          refine ⟨11 - (k + 1), by omega, k + 1, by omega, by omega, rfl, ?_, ?_⟩
          · intro j hj1 hj2
            rcases Nat.lt_or_ge j k with h | h
            · exact hall j hj1 h
            · rw [show j = k by omega, hT]; simpa using hnum
          · (repeat' (first | exact True.intro | rfl | assumption | omega | apply And.intro))
      · skip
        have hno := none_parse (r := r) (k := k) (by omega) hall
        by_cases h10 : k ≤ 10
        · have e3 : (k : Int) ≤ Int.ofNat 10 := by show (k : Int) ≤ 10; omega
          have e4 : ¬ (k : Int) ≤ (r.length : Int) := by omega
          simp only [↓Z0, ↓Xp, ↓Xt, Xq, Xc, binP, ofCells, Nat.reduceAdd, Nat.reduceMul, Nat.reduceLT, Nat.reduceEqDiff, reduceIte, g1, g7, g8, e3, e4, hlr]
          (repeat' (first | exact True.intro | rfl | assumption | omega | apply And.intro))
        · have e3 : ¬ (k : Int) ≤ Int.ofNat 10 := by show ¬ (k : Int) ≤ 10; omega
          simp only [↓Z0, ↓Xp, ↓Xt, Xq, Xc, binP, ofCells, Nat.reduceAdd, Nat.reduceMul, Nat.reduceLT, Nat.reduceEqDiff, reduceIte, g1, g7, g8, e3]
          (repeat' (first | exact True.intro | rfl | assumption | omega | apply And.intro))
    · refine ⟨1, Nat.le_refl _, by omega, rfl, fun j h1 h2 => by omega, ?_⟩
      simp only [Env.get_put, Nat.reduceEqDiff, if_false, if_true, g0, g1, g7]
      (repeat' (first | exact True.intro | rfl | assumption | omega | apply And.intro))
  clear g0 g1 g7
  rintro ⟨env, ⟨sto, c⟩⟩ ⟨g7, hno⟩
  simp only at g7
  have hG := hnone hno
  obtain ⟨B, hB⟩ : ∃ B, r ++ [1] = B := ⟨_, rfl⟩
  have hBl : B.length = r.length + 1 := by rw [← hB]; simp
  have hca : ∀ (S : St) (key key2 : Nat), callStep (runPure cfg (evFn cfg fuel) 46) false (S.put key (some (.cells [.i .u8 (Int.ofNat 1)] false))) key2 [v2, .rsl key 1 0 1] = some (.rsl key2 1 0 B.length, (S.put key (some (.cells [.i .u8 (Int.ofNat 1)] false))).put key2 (some (.cells (ofBytes B) false))) := by
    intro S key key2
    rw [← hB]
    exact r_after hx2 (v' := v2) (w' := .fsl 1 (ofBytes [1])) (deep_2 (deep_in hv2) (deep_b (m := [1]) (St.get_putk S key _))) hv2 (in_fsl [1]) (by show r.length + 1 ≤ _; omega)
  obtain ⟨q, hq⟩ : ∃ q, q = c + 16 := ⟨_, rfl⟩
  have hq' : c + 16 = q := hq.symm
  rw [hB] at hG
  rw [← hBl] at hG
  refine Za (fun x => x.env.get 10 = .rsl q 1 0 B.length ∧ x.st.get q = some (.cells (ofBytes B) false) ∧ (q < x.st.cnt)) ?_ ?_
  · simp only [↓Z0, ↓Xp, ↓Xt, Xq, Xc, binP, ofCells, Nat.reduceAdd, Nat.reduceMul, Nat.reduceLT, Nat.reduceEqDiff, reduceIte, Xm, Nat.reduceLeDiff, g7, hca, hq']
    (repeat' (first | exact True.intro | rfl | assumption | omega | apply And.intro | exact St.get_putk _ _ _ | refine ⟨_, rfl, ?_⟩))
  clear g7
  rintro ⟨env, ⟨sto, c⟩⟩ ⟨g10, kq, hqc⟩
  simp only at g10 kq hqc
  replace kq : ∀ n, St.get ⟨sto, n⟩ q = some (.cells (ofBytes B) false) := fun _ => kq
  have hwl := weighsN_lt B
  have hqv1 := hqv _ hwl
  have hco := closed_osl (varint (weighsN B)).length (varint (weighsN B))
  have hdq : ∀ n, deepL ⟨sto, n⟩ [.rsl q 1 0 B.length] = some [.fsl B.length (ofBytes B)] := fun n => deep_1 (deep_b (kq n))
  have hcq : ∀ (n key : Nat) (o : Option PObj), q < key → cellsOf ((⟨sto, n⟩ : St).put key o) 1 (.rsl q 1 0 B.length) = some (B.length, ofBytes B) := by
    intro n key o hk
    refine cells_at (fz := false) ?_
    rw [St.get_put_ne (by omega)]
    exact kq n
  have hqj : ∀ j, q < c + j := fun j => by omega
  have hqw1 := hqw B
  by_cases h10 : B.length ≤ 10
  · have e3 : (B.length : Int) ≤ Int.ofNat 10 := by show (B.length : Int) ≤ 10; omega
    rw [decide_eq_true h10, Bool.true_and] at hG
    by_cases hnum : isNum B = true
    · have e5 : (varint (weighsN B) == B) = true := hnum
      rw [if_pos hnum] at hG
      simp only [↓Z0, ↓Xp, ↓Xt, Xq, Xc, binP, ofCells, Nat.reduceAdd, Nat.reduceMul, Nat.reduceLT, Nat.reduceEqDiff, reduceIte, g10, kq, hlrr, e3, hdq, hqw1, closed_i, recv_i, hd1, hqv1, hco, recv_bytes, cells_put, bytesOf_of, hcq, hqj, e5]
      refine ⟨nofun, _, rfl, ?_⟩
      rw [hG]
      simp only [tupV, ↓Z0, ↓Xp, ↓Xt, Xq, Xc, binP, ofCells, Nat.reduceAdd, Nat.reduceMul, Nat.reduceLT, Nat.reduceEqDiff, reduceIte]
      rfl
    · have e5 : (varint (weighsN B) == B) = false := by simpa [isNum] using hnum
      rw [if_neg hnum] at hG
      simp only [↓Z0, ↓Xp, ↓Xt, Xq, Xc, binP, ofCells, Nat.reduceAdd, Nat.reduceMul, Nat.reduceLT, Nat.reduceEqDiff, reduceIte, g10, kq, hlrr, e3, hdq, hqw1, closed_i, recv_i, hd1, hqv1, hco, recv_bytes, cells_put, bytesOf_of, hcq, hqj, e5]
      refine ⟨nofun, _, rfl, ?_⟩
      rw [hG]
      simp only [tupV, ↓Z0, ↓Xp, ↓Xt, Xq, Xc, binP, ofCells, Nat.reduceAdd, Nat.reduceMul, Nat.reduceLT, Nat.reduceEqDiff, reduceIte]
      rfl
  · have e3 : ¬ (B.length : Int) ≤ Int.ofNat 10 := by show ¬ (B.length : Int) ≤ 10; omega
    rw [decide_eq_false h10, Bool.false_and] at hG
    simp only [↓Z0, ↓Xp, ↓Xt, Xq, Xc, binP, ofCells, Nat.reduceAdd, Nat.reduceMul, Nat.reduceLT, Nat.reduceEqDiff, reduceIte, g10, kq, hlrr, e3]
    refine ⟨nofun, _, rfl, ?_⟩
    rw [hG]
    simp only [tupV, ↓Z0, ↓Xp, ↓Xt, Xq, Xc, binP, ofCells, Nat.reduceAdd, Nat.reduceMul, Nat.reduceLT, Nat.reduceEqDiff, reduceIte]
    rfl
def gRGetU : List PV → Option PV
  | [v, .i .i64 a] => match inL v with
    | some l => if l.length ≤ 140737488355327 then some (getT (getU l a)) else none
    | none => none
  | _ => none
theorem getT_closeR (st : St) (p : Nat × Int × Int) : closeRes st (getT p) = some (getT p) := closeRes_tup (vs := [.i .u64 (p.1 : Int), .i .i64 p.2.1, .i .i64 p.2.2]) rfl
theorem getIT_closeR (st : St) (p : Int × Int × Int) : closeRes st (getIT p) = some (getIT p) := closeRes_tup (vs := [.i .i64 p.1, .i .i64 p.2.1, .i .i64 p.2.2]) rfl
theorem rgetu_any (args : List PV) (r : PV) (h : gRGetU args = some r) : ∃ fuel, evP cfgR1 fuel 23 args = some r := by
  unfold gRGetU at h
  split at h
  · rename_i v a
    split at h
    · rename_i l hl
      split at h
      · rename_i hc
        simp only [Option.some.injEq] at h
        subst h
        exact ⟨12 + 1, ev_flat (by kernel_rfl) (open_in hl) (fun st => getT_closeR st _) (rgetu_ev (cfg := cfgR1) (by kernel_rfl) (by kernel_rfl) (by kernel_rfl) (by kernel_rfl) hl hc (Nat.le_refl _))⟩
      · simp at h
    · simp at h
  · simp at h
def extR5 : FuncId → Option (List PV → Option PV) := fun f => if f = 23 then some gRGetU else none
noncomputable def cfgR5 : Cfg := { fn := fun f => lookT f tblL, ext := extR5 }
theorem cfgR5_ok {Gl : Gmap} : CfgOK Go.Proofs.Try.prog Gl cfgR5 := by
  refine cfg_okt tbl_all ?_
  intro f g h
  unfold extR5 at h
  split at h
  · rename_i e; simp only [Option.some.injEq] at h; subst h; subst e
    exact pure_of cfgR1_ok rgetu_any
  · simp at h
theorem getU_bad {l : List UInt8} {a : Int} (h : (getU l a).2.2 ≠ 0) : (getU l a).1 = 0 ∧ (getU l a).2.1 = 0 := by
  unfold getU at h ⊢
  split
  · exact ⟨rfl, rfl⟩
  split
  · exact ⟨rfl, rfl⟩
  split
  · exact ⟨rfl, rfl⟩
  · rename_i h1 h2 h3
    rw [if_neg h1, if_neg h2, if_neg h3] at h
    exact absurd rfl h
theorem getU_lt (l : List UInt8) (a : Int) : (getU l a).1 < 18446744073709551616 := by
  unfold getU
  split
  · decide
  split
  · decide
  split
  · decide
  · exact parse_lt _
def gRGetI : List PV → Option PV
  | [v, .i .i64 a] => match inL v with
    | some l => if l.length ≤ 140737488355327 then some (getIT (getI l a)) else none
    | none => none
  | _ => none
set_option maxHeartbeats 4000000 in
theorem rgeti_any (args : List PV) (r : PV) (h : gRGetI args = some r) : ∃ fuel, evP cfgR5 fuel 24 args = some r := by
  unfold gRGetI at h
  split at h
  · rename_i v a
    split at h
    · rename_i l hl
      split at h
      · rename_i hc
        simp only [Option.some.injEq] at h
        subst h
        refine ⟨0 + 1, ev_flat (by kernel_rfl) (open_in hl) (fun st => getIT_closeR st _) (evFn_W (by kernel_rfl : cfgR5.fn 24 = some m24) ?_)⟩
        unfold m24
        have hlb := hc
        have hcu : ∀ (st : St) key, callStep (runPure cfgR5 (evFn cfgR5 0) 23) false st key [v, .i .i64 a] = some (.tup [.i .u64 ((getU l a).1 : Int), .i .i64 (getU l a).2.1, .i .i64 (getU l a).2.2], st) := by
          intro st key
          refine callStep_flat (by simp only [List.all_cons, in_flat hl, List.all_nil, Bool.and_self]; rfl) ?_ rfl
          rw [runPure_ext (by kernel_rfl : cfgR5.ext 23 = some gRGetU)]
          unfold gRGetU
          simp only [hl]
          rw [if_pos hlb]; rfl
        have hbad := getU_bad (l := l) (a := a)
        have hlt := getU_lt l a
        have hgi : getI l a = if (getU l a).2.2 = 0 then (openI (getU l a).1, (getU l a).2.1, 0) else (0, 0, (getU l a).2.2) := rfl
        rw [hgi]
        clear hgi
        generalize getU l a = G at *
        obtain ⟨n, nx, e⟩ := G
        simp only [] at hcu hbad hlt ⊢
        have h2 : ¬ (Int.ofNat 2 = 0) := by decide
        have hrem : (n : Int).tmod (Int.ofNat 2) = ((n % 2 : Nat) : Int) := rfl
        have hquo : (n : Int).tdiv (Int.ofNat 2) = ((n / 2 : Nat) : Int) := rfl
        have wq : IntKind.u64.wrap ((n / 2 : Nat) : Int) = ((n / 2 : Nat) : Int) := wr_u64 _ ⟨by omega, by omega⟩
        have wi : IntKind.i64.wrap ((n / 2 : Nat) : Int) = ((n / 2 : Nat) : Int) := wr_i64 _ ⟨by omega, by omega⟩
        by_cases he : e = 0
        · subst he
          have e0 : ((0 : Int) == Int.ofNat 0) = true := rfl
          rw [if_pos rfl]
          by_cases hod : n % 2 = 1
          · have e1 : (((n % 2 : Nat) : Int) == Int.ofNat 1) = true := by rw [hod]; rfl
            have ws : IntKind.i64.wrap (Int.negSucc 0 - ((n / 2 : Nat) : Int)) = openI n := by
              unfold openI
              rw [if_neg (by omega), wr_i64 _ ⟨by show _ ≤ (-1 : Int) - _; omega, by show (-1 : Int) - _ < _; omega⟩]
              show (-1 : Int) - _ = _
              omega
            simp only [putArgs, ↓Z0, ↓Xp, ↓Xt, Xq, Xc, binP, ofCells, Nat.reduceAdd, Nat.reduceMul, Nat.reduceLT, Nat.reduceEqDiff, reduceIte, List.getElem?_cons_zero, List.getElem?_cons_succ, hcu, e0, h2, hrem, hquo, wq, wi, e1, ws]
            refine ⟨nofun, _, rfl, ?_⟩
            simp only [tupV, getIT, ↓Z0, ↓Xp, ↓Xt, Xq, Xc, binP, ofCells, Nat.reduceAdd, Nat.reduceMul, Nat.reduceLT, Nat.reduceEqDiff, reduceIte]
            rfl
          · have e1 : (((n % 2 : Nat) : Int) == Int.ofNat 1) = false := by rw [show n % 2 = 0 by omega]; rfl
            have ho : openI n = ((n / 2 : Nat) : Int) := by unfold openI; rw [if_pos (by omega)]
            simp only [putArgs, ↓Z0, ↓Xp, ↓Xt, Xq, Xc, binP, ofCells, Nat.reduceAdd, Nat.reduceMul, Nat.reduceLT, Nat.reduceEqDiff, reduceIte, List.getElem?_cons_zero, List.getElem?_cons_succ, hcu, e0, h2, hrem, hquo, wq, wi, e1]
            refine ⟨nofun, _, rfl, ?_⟩
            simp only [tupV, getIT, ho, ↓Z0, ↓Xp, ↓Xt, Xq, Xc, binP, ofCells, Nat.reduceAdd, Nat.reduceMul, Nat.reduceLT, Nat.reduceEqDiff, reduceIte]
        · have e0 : (e == Int.ofNat 0) = false := by simpa using he
          rw [if_neg he]
          obtain ⟨hb1, hb2⟩ := hbad he
          subst hb1
          subst hb2
          simp only [putArgs, ↓Z0, ↓Xp, ↓Xt, Xq, Xc, binP, ofCells, Nat.reduceAdd, Nat.reduceMul, Nat.reduceLT, Nat.reduceEqDiff, reduceIte, List.getElem?_cons_zero, List.getElem?_cons_succ, hcu, e0, h2, hquo, wq, wi]
          refine ⟨nofun, _, rfl, ?_⟩
          simp only [tupV, getIT, ↓Z0, ↓Xp, ↓Xt, Xq, Xc, binP, ofCells, Nat.reduceAdd, Nat.reduceMul, Nat.reduceLT, Nat.reduceEqDiff, reduceIte]
          rfl
      · simp at h
    · simp at h
  · simp at h
end Go.Pe
