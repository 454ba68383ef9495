/-
 References of the layers 1 and 3, by the interpreter of plain data. No condition.
-/
import Derived.Test.YtadblicfhhllgaaEvtE
import Derived.Test.YtadblicfhhllgaaRefM
set_option linter.unusedVariables false
set_option linter.unusedSimpArgs false
set_option maxHeartbeats 8000000
set_option maxRecDepth 100000
namespace Go.Pe
open Go Go.Am Go.RowKit

theorem Nmf (n : Nat) : IntKind.u8.wrap (n : Int) = ((UInt8.ofNat n).toNat : Int) := by
 rw [IntKind.wrap_u8, UInt8.toNat_ofNat']
 omega
theorem Ng7 (c : UInt8) : ([.i .u8 (c.toNat : Int)] : List PV) = Nab [c] := rfl
theorem Nny {sto : Trie PObj} {q m key key2 : Nat} {L : List UInt8} {c : UInt8} (hk : St.get ⟨sto, m⟩ q = some (.cells (Nab L) false)) (hq : q ≠ key) (hl : L.length + 1 ≤ maxBytes) :
 NaC ((⟨sto, m⟩ : St).put key (some (.cells [.i .u8 (c.toNat : Int)] false))) key2 1 1 1 [.i .u8 (c.toNat : Int)] (.rsl q 1 0 L.length) = some (.rsl key2 1 0 (L ++ [c]).length, (((⟨sto, m⟩ : St).put key (some (.cells [.i .u8 (c.toNat : Int)] false))).put q none).put key2 (some (.cells (Nab (L ++ [c])) false))) := by
 refine NoZ (news := [c]) (l := L) ?_ hl
 rw [St.get_put_ne (fun e => hq e.symm)]
 exact hk
theorem NjV (S : St) (key : Nat) (v : PV) : cellsOf (S.put key (some (.cells [v] false))) 1 (.rsl key 1 0 1) = some (1, [v]) := by
 have h := St.get_putk S key (some (.cells [v] false))
 unfold cellsOf
 simp only [h]
 rfl
theorem NmX {m k : Nat} (h1 : 128 ≤ m) (h2 : m * 128 ^ k < 18446744073709551616) : k ≤ 8 := by
 rcases Nat.lt_or_ge 8 k with h | h
 ·exfalso
  have h3 : (128 : Nat) ^ 9 ≤ 128 ^ k := Nat.pow_le_pow_right (by decide) h
  have h4 : (128 : Nat) ^ 9 = 9223372036854775808 := by decide
  have h5 : 128 * 128 ^ k ≤ m * 128 ^ k := Nat.mul_le_mul_right _ h1
  omega
 ·exact h
theorem Niw {cfg : Cfg} (hf : cfg.fn 37 = some m37) {fuel : Nat} (hfu : 12 ≤ fuel) {N : Nat} (hN : N < 18446744073709551616) :
 ∃ r st', NaH cfg (fuel + 1) 37 [.i .u64 N] { sto := .leaf, cnt := 1 } = some (r, st') ∧ ∃ q, r = .rsl q 1 0 (Nai N).length ∧ st'.get q = some (.cells (Nab (Nai N)) false) := by
 refine NaD hf ?_
 unfold m37
 have h128 : ¬ (Int.ofNat 128 = 0) := by decide
 have hrem : ∀ m : Nat, (m : Int).tmod (Int.ofNat 128) = ((m % 128 : Nat) : Int) := fun _ => rfl
 have hquo : ∀ m : Nat, (m : Int).tdiv (Int.ofNat 128) = ((m / 128 : Nat) : Int) := fun _ => rfl
 have hlr : ∀ (a b c n : Nat), NeU (.rsl a b c n) = some (.i .i64 n) := fun _ _ _ _ => rfl
 have w8 : ∀ m : Nat, IntKind.u8.wrap ((m % 128 : Nat) : Int) = ((UInt8.ofNat (m % 128)).toNat : Int) := fun m => Nmf _
 have wq : ∀ m : Nat, m < 18446744073709551616 → IntKind.u64.wrap ((m / 128 : Nat) : Int) = ((m / 128 : Nat) : Int) := fun m hm => NbU _ ⟨by omega, by omega⟩
 have wN := wq N hN
 refine Za (fun x => x.env.get 0 = .i .u64 N) ?_ ?_
 ·simp only [↓Z0, ↓Xp, ↓Xt, Xq, Xc, Nad, Naa, Nat.reduceAdd, Nat.reduceMul, Nat.reduceLT, Nat.reduceEqDiff, reduceIte, Xm, Nat.reduceLeDiff, Nag]
  (repeat' (first | exact True.intro | rfl | assumption | omega | apply And.intro | exact St.get_putk _ _ _ | refine ⟨_, rfl, ?_⟩))
 rintro ⟨env, ⟨sto, c⟩⟩ g0
 simp only at g0
 refine Za (fun x => x.env.get 0 = .i .u64 N ∧ (∃ q, x.env.get 3 = .rsl q 1 0 ([UInt8.ofNat (N % 128)] : List UInt8).length ∧ x.st.get q = some (.cells [.i .u8 ((UInt8.ofNat (N % 128)).toNat : Int)] false) ∧ q < x.st.cnt)) ?_ ?_
 ·simp only [↓Z0, ↓Xp, ↓Xt, Xq, Xc, Nad, Naa, Nat.reduceAdd, Nat.reduceMul, Nat.reduceLT, Nat.reduceEqDiff, reduceIte, Xm, Nat.reduceLeDiff, g0, h128, hrem, w8]
  (repeat' (first | exact True.intro | rfl | assumption | omega | apply And.intro | exact St.get_putk _ _ _ | refine ⟨_, rfl, ?_⟩))
 clear g0
 rintro ⟨env, ⟨sto, c⟩⟩ ⟨g0, h3⟩
 simp only at g0 h3
 have hh3 := h3
 obtain ⟨q0, g3, k3, hq0⟩ := hh3
 refine Za (fun x => ∃ q, x.env.get 3 = .rsl q 1 0 (Nai N).length ∧ x.st.get q = some (.cells (Nab (Nai N)) false)) ?_ ?_
 ·rw [Z0]
  simp only [↓Xp, ↓Xt, Xq, Xc, Nad, Naa, Nat.reduceAdd, Nat.reduceMul, Nat.reduceLT, Nat.reduceEqDiff, reduceIte, g0, h128, hquo, wN]
  refine Z9 (k := 10 - 0) (fun d x => ∃ (k m q : Nat) (pre : List UInt8), k ≤ 9 ∧ d = 10 - k ∧ m < 18446744073709551616 ∧ pre.length = k ∧ Nai N = pre ++ varF (9 - k) m ∧ m * 128 ^ k < 18446744073709551616 ∧ x.env.get 3 = .rsl q 1 0 (pre ++ [UInt8.ofNat (m % 128)]).length ∧ x.env.get 4 = .i .u64 ((m / 128 : Nat) : Int) ∧ x.st.get q = some (.cells (Nab (pre ++ [UInt8.ofNat (m % 128)])) false) ∧ q < x.st.cnt) ?_ ?_ (by omega)
  ·clear g0 h3 g3 k3 hq0
   rintro d ⟨env, ⟨sto, c⟩⟩ ⟨k, m, q, pre, hk, rfl, hm, hpl, hvar, hpow, g3, g4, kq, hq⟩
   simp only at g3 g4 kq hq
   replace kq : ∀ n, St.get ⟨sto, n⟩ q = some (.cells (Nab (pre ++ [UInt8.ofNat (m % 128)])) false) := fun _ => kq
   have wm := wq m hm
   by_cases hsm : m < 128
   ·have e0 : ¬ (((m / 128 : Nat) : Int) > Int.ofNat 0) := by show ¬ (((m / 128 : Nat) : Int) > 0); omega
    have hfin : Nai N = pre ++ [UInt8.ofNat (m % 128)] := by
     rw [hvar, show m % 128 = m by omega]; congr 1
     cases 9 - k with
     | zero => rfl
     | succ f => simp [varF, hsm]
    simp only [↓Z0, ↓Xp, ↓Xt, Xq, Xc, Nad, Naa, Nat.reduceAdd, Nat.reduceMul, Nat.reduceLT, Nat.reduceEqDiff, reduceIte, g3, g4, kq, e0]
    refine ⟨q, ?_, ?_⟩
    ·rw [hfin]
    ·rw [hfin]; exact kq _
   ·have e0 : ((m / 128 : Nat) : Int) > Int.ofNat 0 := by show ((m / 128 : Nat) : Int) > 0; omega
    have hk8 := NmX (by omega) hpow
    obtain ⟨L, hL⟩ : ∃ L, pre ++ [UInt8.ofNat (m % 128)] = L := ⟨_, rfl⟩
    have hLl : L.length = k + 1 := by rw [← hL]; simp [hpl]
    have hgd : L.getD k 0 = UInt8.ofNat (m % 128) := by rw [← hL, ← hpl]; simp [List.getD_eq_getElem?_getD]
    have hset : L.set k (UInt8.ofNat (m % 128 + 128)) = pre ++ [UInt8.ofNat (m % 128 + 128)] := by
     rw [← hL, ← hpl, List.set_append_right _ _ (Nat.le_refl _), Nat.sub_self]; rfl
    rw [hL] at g3
    simp only [hL] at kq
    rw [hLl] at g3
    have wk : IntKind.i64.wrap (((k + 1 : Nat) : Int) - Int.ofNat 1) = (k : Int) := by
     rw [NaI _ ⟨by show _ ≤ ((k + 1 : Nat) : Int) - 1; omega, by show ((k + 1 : Nat) : Int) - 1 < _; omega⟩]
     show ((k + 1 : Nat) : Int) - 1 = _
     omega
    have h0k : 0 ≤ (k : Int) := by omega
    have hk1 : (k : Int) < ((k + 1 : Nat) : Int) := by omega
    refine Za (fun x => x.env.get 3 = .rsl q 1 0 (k + 1) ∧ x.env.get 4 = .i .u64 ((m / 128 : Nat) : Int) ∧ x.st.get q = some (.cells (Nab L) false) ∧ (q < x.st.cnt)) ?_ ?_
    ·simp only [↓Z0, ↓Xp, ↓Xt, Xq, Xc, Nad, Naa, Nat.reduceAdd, Nat.reduceMul, Nat.reduceLT, Nat.reduceEqDiff, reduceIte, Xm, Nat.reduceLeDiff, g3, g4, kq, e0]
     (repeat' (first | exact True.intro | rfl | assumption | omega | apply And.intro | exact St.get_putk _ _ _ | refine ⟨_, rfl, ?_⟩))
    clear g3 g4 kq hq
    rintro ⟨env, ⟨sto, c⟩⟩ ⟨g3, g4, kq, hq⟩
    simp only at g3 g4 kq hq
    replace kq : ∀ n, St.get ⟨sto, n⟩ q = some (.cells (Nab L) false) := fun _ => kq
    have hld := fun n => NeF (st := ⟨sto, n⟩) (kq n) (i := k) (by omega)
    rw [hgd] at hld
    have w2 : IntKind.u8.wrap (((UInt8.ofNat (m % 128)).toNat : Int) + Int.ofNat 128) = ((UInt8.ofNat (m % 128 + 128)).toNat : Int) := by
     rw [NaL (by omega), NaL (by omega)]
     rw [NkR _ ⟨by show 0 ≤ ((m % 128 : Nat) : Int) + 128; omega, by show ((m % 128 : Nat) : Int) + 128 < 256; omega⟩]
     rfl
    have hsto := fun n => NcU (st := ⟨sto, n⟩) (kq n) (i := k) (by omega) (UInt8.ofNat (m % 128 + 128))
    rw [hset] at hsto
    rw [Z0]
    simp only [↓Xp, ↓Xt, Xq, Xc, Nad, Naa, Nat.reduceAdd, Nat.reduceMul, Nat.reduceLT, Nat.reduceEqDiff, reduceIte]
    refine Za (fun x => x.env.get 3 = .rsl q 1 0 (k + 1) ∧ x.env.get 4 = .i .u64 ((m / 128 : Nat) : Int) ∧ x.st.get q = some (.cells (Nab (pre ++ [UInt8.ofNat (m % 128 + 128)])) false) ∧ (q < x.st.cnt)) ?_ ?_
    ·simp only [↓Z0, ↓Xp, ↓Xt, Xq, Xc, Nad, Naa, Nat.reduceAdd, Nat.reduceMul, Nat.reduceLT, Nat.reduceEqDiff, reduceIte, List.getElem?_cons_zero, List.getElem?_cons_succ, Z0L_, g3, g4, kq, hlr, wk, h0k, hk1, hld, w2, hsto]
     (repeat' (first | exact True.intro | rfl | assumption | omega | apply And.intro | exact St.get_putk _ _ _ | refine ⟨_, rfl, ?_⟩))
    clear g3 g4 kq hq
    rintro ⟨env, ⟨sto, c⟩⟩ ⟨g3, g4, kq, hq⟩
    simp only at g3 g4 kq hq
    replace kq : ∀ n, St.get ⟨sto, n⟩ q = some (.cells (Nab (pre ++ [UInt8.ofNat (m % 128 + 128)])) false) := fun _ => kq
    clear hld hsto
    have hpl1 : (pre ++ [UInt8.ofNat (m % 128 + 128)]).length = k + 1 := by simp [hpl]
    have hvar2 : Nai N = (pre ++ [UInt8.ofNat (m % 128 + 128)]) ++ varF (9 - (k + 1)) (m / 128) := by
     rw [hvar, show 9 - k = (9 - (k + 1)) + 1 by omega]
     conv => lhs; unfold varF
     rw [if_neg hsm, List.append_assoc]; rfl
    have hpow2 : m / 128 * 128 ^ (k + 1) < 18446744073709551616 := by
     rw [Nat.pow_succ, Nat.mul_comm (128 ^ k) 128, ← Nat.mul_assoc]
     exact Nat.lt_of_le_of_lt (Nat.mul_le_mul_right _ (Nat.div_mul_le_self m 128)) hpow
    obtain ⟨P, hP⟩ : ∃ L, pre ++ [UInt8.ofNat (m % 128 + 128)] = L := ⟨_, rfl⟩
    rw [hP] at hpl1 hvar2
    simp only [hP] at kq
    obtain ⟨m2, hm2⟩ : ∃ m2, m / 128 = m2 := ⟨_, rfl⟩
    rw [hm2] at hvar2 hpow2 g4
    have hm2' : m2 < 18446744073709551616 := by omega
    have wm2 := wq m2 hm2'
    have w82 := w8 m2
    have happ : ∀ (m key key2 : Nat), q < key → NaC ((⟨sto, m⟩ : St).put key (some (.cells [.i .u8 ((UInt8.ofNat (m2 % 128)).toNat : Int)] false))) key2 1 1 1 [.i .u8 ((UInt8.ofNat (m2 % 128)).toNat : Int)] (.rsl q 1 0 (k + 1)) = some (.rsl key2 1 0 (P ++ [UInt8.ofNat (m2 % 128)]).length, (((⟨sto, m⟩ : St).put key (some (.cells [.i .u8 ((UInt8.ofNat (m2 % 128)).toNat : Int)] false))).put q none).put key2 (some (.cells (Nab (P ++ [UInt8.ofNat (m2 % 128)])) false))) := by
     intro m key key2 hk
     rw [← hpl1]
     exact Nny (kq m) (by omega) (by rw [hpl1]; unfold maxBytes; omega)
    have hqc : ∀ j, q < c + j := fun j => by omega
    simp only [↓Z0, ↓Xp, ↓Xt, Xq, Xc, Nad, Naa, Nat.reduceAdd, Nat.reduceMul, Nat.reduceLT, Nat.reduceEqDiff, reduceIte, Xm, Nat.reduceLeDiff, g3, g4, h128, hrem, hquo, w82, wm2, NjV, happ, hqc]
    refine ⟨10 - (k + 1), by omega, k + 1, m2, ?_⟩
    refine ⟨c + 40, P, by omega, rfl, hm2', hpl1, hvar2, hpow2, ?_⟩
    (repeat' (first | exact True.intro | rfl | assumption | omega | apply And.intro | exact St.get_putk _ _ _ | (simp only [Z0L_, NcW]; omega) | (simp (disch := omega) only [NkK, Nde, Nc6, kq]; done) | refine ⟨_, rfl, ?_⟩))
  ·refine ⟨0, N, q0, [], by omega, rfl, hN, rfl, rfl, by simpa using hN, ?_⟩
   simp only [Env.get_put, Nat.reduceEqDiff, if_false, if_true, g3]
   (repeat' (first | exact True.intro | rfl | assumption | omega | exact k3 | apply And.intro))
 rintro ⟨env, st1⟩ ⟨q, g3, kq⟩
 simp only at g3 kq
 simp only [↓Z0, ↓Xp, ↓Xt, Xq, Xc, Nad, Naa, Nat.reduceAdd, Nat.reduceMul, Nat.reduceLT, Nat.reduceEqDiff, reduceIte, g3]
 refine ⟨nofun, _, rfl, q, ?_, kq⟩
 simp only [NaX, ↓Z0, ↓Xp, ↓Xt, Xq, Xc, Nad, Naa, Nat.reduceAdd, Nat.reduceMul, Nat.reduceLT, Nat.reduceEqDiff, reduceIte]
def NdZ : List PV → Option PV
 | [.i .u64 n] => if 0 ≤ n ∧ n < 18446744073709551616 then some (.osl 1 (Nai n.toNat).length (Nab (Nai n.toNat))) else none
 | _ => none
theorem Neh (args : List PV) (r : PV) (h : NdZ args = some r) : ∃ fuel, evP cfgE0 fuel 37 args = some r := by
 unfold NdZ at h
 split at h
 ·rename_i n
  split at h
  ·rename_i hc
   simp only [Sj] at h
   subst h
   obtain ⟨r, st', h1, q, h2, h3⟩ := Niw (cfg := cfgE0) (by kernel_rfl) (fuel := 12) (by omega) (N := n.toNat) (by omega)
   rw [show ((n.toNat : Nat) : Int) = n by omega] at h1
   exact ⟨12 + 1, Nby rfl rfl ⟨r, st', h1, by rw [h2]; exact NaK h3⟩⟩
  ·simp at h
 ·simp at h
theorem Nh6 {st : St} {k off : Nat} {L a : List UInt8} (hk : st.get k = some (.cells (Nab L) false)) (h : off + a.length ≤ L.length) :
 NcN st 1 a.length (Nab a) (.rsl k 1 off (L.length - off)) = some (.i .i64 (a.length : Int), st.put k (some (.cells (Nab (L.take off ++ a ++ L.drop (off + a.length))) false))) := by
 have hm : Nat.min a.length (L.length - off) = a.length := Nat.min_eq_left (by omega)
 have ho := Nbs a
 have ha : ((Nab L).take off ++ (Nab a).take a.length ++ (Nab L).drop (off + a.length)) = Nab (L.take off ++ a ++ L.drop (off + a.length)) := by
  rw [NaO, NbE, NaO, List.take_length, NaN, NaN]
 unfold NcN
 simp only [hk, hm, Nat.mul_one, Nah, ho, ha]
 rw [if_pos ⟨trivial, by omega, trivial⟩]
theorem NoW (n : Nat) : List.flatten (List.replicate n ([.i .u8 (.ofNat 0)] : List PV)) = Nab (List.replicate n 0) := by
 induction n with
 | zero => rfl
 | succ n ih =>
   rw [List.replicate_succ, List.replicate_succ, List.flatten_cons, ih]; rfl
theorem NkP {cfg : Cfg} (hf : cfg.fn 50 = some m50) {fuel : Nat} {v w : PV} {a b : List UInt8} (hv : inL v = some a) (hw : inL w = some b) (hl : a.length + b.length ≤ 140737488355328) :
 ∃ r st', NaH cfg (fuel + 1) 50 [v, w] { sto := .leaf, cnt := 1 } = some (r, st') ∧ ∃ q, r = .rsl q 1 0 (a ++ b).length ∧ st'.get q = some (.cells (Nab (a ++ b)) false) := by
 refine NaD hf ?_
 unfold m50
 have hla := Nbx hv
 have hlb := Nbx hw
 have hca := fun st => NbM (st := st) hv
 have hcb := fun st => NbM (st := st) hw
 obtain ⟨nn, hn⟩ : ∃ nn, a.length + b.length = nn := ⟨_, rfl⟩
 have wn : IntKind.i64.wrap ((a.length : Int) + (b.length : Int)) = (nn : Int) := by
  rw [NaI _ ⟨by omega, by omega⟩]; omega
 have h0n : 0 ≤ (nn : Int) := by omega
 have hnm : nn ≤ maxBytes := by unfold maxBytes; omega
 have hz := NoW nn
 have h01 : (0 : Nat) < 1 := by decide
 refine Za (fun x => x.env.get 0 = v ∧ x.env.get 1 = w) ?_ ?_
 ·simp only [↓Z0, ↓Xp, ↓Xt, Xq, Xc, Nad, Naa, Nat.reduceAdd, Nat.reduceMul, Nat.reduceLT, Nat.reduceEqDiff, reduceIte, Xm, Nat.reduceLeDiff, Nag]
  (repeat' (first | exact True.intro | rfl | assumption | omega | apply And.intro | exact St.get_putk _ _ _ | refine ⟨_, rfl, ?_⟩))
 rintro ⟨env, ⟨sto, c⟩⟩ ⟨g0, g1⟩
 simp only at g0 g1
 obtain ⟨q, hq⟩ : ∃ q, q = c + 40 := ⟨_, rfl⟩
 have hq' : c + 40 = q := hq.symm
 refine Za (fun x => x.env.get 0 = v ∧ x.env.get 1 = w ∧ x.env.get 5 = .rsl q 1 0 nn ∧ x.st.get q = some (.cells (Nab (List.replicate nn 0)) false)) ?_ ?_
 ·simp only [↓Z0, ↓Xp, ↓Xt, Xq, Xc, Nad, Naa, Nat.reduceAdd, Nat.reduceMul, Nat.reduceLT, Nat.reduceEqDiff, reduceIte, Xm, Nat.reduceLeDiff, g0, g1, hla, hlb, wn, h0n, hnm, hz, hq', h01, Nat.mul_one]
  (repeat' (first | exact True.intro | rfl | assumption | omega | apply And.intro | exact St.get_putk _ _ _ | refine ⟨_, rfl, ?_⟩))
 clear g0 g1
 rintro ⟨env, ⟨sto, c⟩⟩ ⟨g0, g1, g5, kq⟩
 simp only at g0 g1 g5 kq
 replace kq : ∀ n, St.get ⟨sto, n⟩ q = some (.cells (Nab (List.replicate nn 0)) false) := fun _ => kq
 clear hq hq'
 have hc1 := fun m => Nh6 (st := ⟨sto, m⟩) (off := 0) (a := a) (kq m) (by simp; omega)
 have hr1 : (List.replicate nn (0 : UInt8)).take 0 ++ a ++ (List.replicate nn (0 : UInt8)).drop (0 + a.length) = a ++ List.replicate b.length 0 := by
  rw [List.take_zero, List.nil_append, List.drop_replicate, Nat.zero_add]
  congr 2; omega
 rw [hr1, List.length_replicate, Nat.sub_zero] at hc1
 refine Za (fun x => x.env.get 0 = v ∧ x.env.get 1 = w ∧ x.env.get 5 = .rsl q 1 0 nn ∧ x.st.get q = some (.cells (Nab (a ++ List.replicate b.length 0)) false)) ?_ ?_
 ·simp only [↓Z0, ↓Xp, ↓Xt, Xq, Xc, Nad, Naa, Nat.reduceAdd, Nat.reduceMul, Nat.reduceLT, Nat.reduceEqDiff, reduceIte, Xm, Nat.reduceLeDiff, g0, g1, g5, kq, hca, hc1]
  (repeat' (first | exact True.intro | rfl | assumption | omega | apply And.intro | exact St.get_putk _ _ _ | refine ⟨_, rfl, ?_⟩))
 clear g0 g1 g5 kq
 rintro ⟨env, ⟨sto, c⟩⟩ ⟨g0, g1, g5, kq⟩
 simp only at g0 g1 g5 kq
 replace kq : ∀ n, St.get ⟨sto, n⟩ q = some (.cells (Nab (a ++ List.replicate b.length 0)) false) := fun _ => kq
 clear hc1 hr1
 by_cases hs : a.length < nn ∨ a.length = 0
 ·have hsl : NbD 1 (some (.i .i64 (a.length : Int))) none (.rsl q 1 0 nn) = some (.rsl q 1 a.length (nn - a.length)) := by
   have hb := Ncp (k := .i64) (d := 0) (most := nn) (n := (a.length : Int)) ⟨by omega, by omega⟩
   unfold NbD
   simp only [Z0B_, hb, Int.toNat_natCast]
   rw [if_pos ⟨trivial, hs⟩]
   simp
  have hc2 := fun m => Nh6 (st := ⟨sto, m⟩) (off := a.length) (a := b) (kq m) (by simp)
  have hr2 : (a ++ List.replicate b.length (0 : UInt8)).take a.length ++ b ++ (a ++ List.replicate b.length (0 : UInt8)).drop (a.length + b.length) = a ++ b := by
   rw [List.take_left, List.drop_of_length_le (by simp), List.append_nil]
  have hr3 : (a ++ List.replicate b.length (0 : UInt8)).length - a.length = nn - a.length := by rw [List.length_append, List.length_replicate]; omega
  rw [hr2, hr3] at hc2
  refine Za (fun x => x.env.get 0 = v ∧ x.env.get 1 = w ∧ x.env.get 5 = .rsl q 1 0 nn ∧ x.st.get q = some (.cells (Nab (a ++ b)) false)) ?_ ?_
  ·simp only [↓Z0, ↓Xp, ↓Xt, Xq, Xc, Nad, Naa, Nat.reduceAdd, Nat.reduceMul, Nat.reduceLT, Nat.reduceEqDiff, reduceIte, Xm, Nat.reduceLeDiff, g0, g1, g5, kq, hla, hsl, hcb, hc2]
   (repeat' (first | exact True.intro | rfl | assumption | omega | apply And.intro | exact St.get_putk _ _ _ | refine ⟨_, rfl, ?_⟩))
  clear g0 g1 g5 kq
  rintro ⟨env, ⟨sto, c⟩⟩ ⟨g0, g1, g5, kq⟩
  simp only at g0 g1 g5 kq
  replace kq : ∀ n, St.get ⟨sto, n⟩ q = some (.cells (Nab (a ++ b)) false) := fun _ => kq
  simp only [↓Z0, ↓Xp, ↓Xt, Xq, Xc, Nad, Naa, Nat.reduceAdd, Nat.reduceMul, Nat.reduceLT, Nat.reduceEqDiff, reduceIte, g0, g1, g5, kq]
  refine ⟨nofun, _, rfl, q, ?_, kq _⟩
  simp only [NaX, ↓Z0, ↓Xp, ↓Xt, Xq, Xc, Nad, Naa, Nat.reduceAdd, Nat.reduceMul, Nat.reduceLT, Nat.reduceEqDiff, reduceIte, List.length_append, hn]
 ·have hb0 : b = [] := List.length_eq_zero_iff.1 (by omega)
  subst hb0
  have hsl : NbD 1 (some (.i .i64 (a.length : Int))) none (.rsl q 1 0 nn) = some (.fsl 0 []) := by
   have hb := Ncp (k := .i64) (d := 0) (most := nn) (n := (a.length : Int)) ⟨by omega, by omega⟩
   unfold NbD
   simp only [Z0B_, hb, Int.toNat_natCast]
   rw [if_neg (fun h => hs h.2), if_pos trivial]
  have hc2 : ∀ st, NcN st 1 0 [] (.fsl 0 []) = some (.i .i64 0, st) := fun _ => rfl
  have hcb' : ∀ st, cellsOf st 1 w = some (0, []) := hcb
  have kq' : St.get ⟨sto, c⟩ q = some (.cells (Nab (a ++ [])) false) := by
   have := kq c
   simpa using this
  simp only [↓Z0, ↓Xp, ↓Xt, Xq, Xc, Nad, Naa, Nat.reduceAdd, Nat.reduceMul, Nat.reduceLT, Nat.reduceEqDiff, reduceIte, g0, g1, g5, kq, hla, hsl, hcb', hc2]
  refine ⟨nofun, _, rfl, q, ?_, kq'⟩
  have hn' : a.length + 0 = nn := hn
  simp only [NaX, ↓Z0, ↓Xp, ↓Xt, Xq, Xc, Nad, Naa, Nat.reduceAdd, Nat.reduceMul, Nat.reduceLT, Nat.reduceEqDiff, reduceIte, List.length_append, hn']
def Ncv : List PV → Option PV
 | [v, w] => match inL v, inL w with
   | some a, some b => if a.length + b.length ≤ 140737488355328 then some (.osl 1 (a ++ b).length (Nab (a ++ b))) else none
   | _, _ => none
 | _ => none
theorem Ngv (args : List PV) (r : PV) (h : Ncv args = some r) : ∃ fuel, evP cfgE0 fuel 50 args = some r := by
 unfold Ncv at h
 split at h
 ·rename_i v w
  split at h
  ·rename_i a b h1 h2
   split at h
   ·rename_i hc
    simp only [Sj] at h
    subst h
    obtain ⟨r, st', h3, q, h4, h5⟩ := NkP (cfg := cfgE0) (by kernel_rfl) (fuel := 0) h1 h2 hc
    exact ⟨0 + 1, Nby rfl (NaT h1) ⟨r, st', h3, by rw [h4]; exact NaK h5⟩⟩
   ·simp at h
  ·simp at h
 ·simp at h
theorem Ngu {cfg : Cfg} (hf : cfg.fn 52 = some m52) (hx : cfg.ext 52 = none) : ∀ (l : List UInt8) (v : PV) (fuel : Nat), inL v = some l → l.length < fuel → evP cfg fuel 52 [v] = some (.i .u64 (weighsN l))
 | [], v, 0, _, h => by simp at h
 | c :: l, v, 0, _, h => by simp at h
 | [], v, fuel + 1, hv, _ => by
   refine Nbr hx (NaT hv) (fun _ => rfl) (NaD hf ?_)
   unfold m52
   have hlv : NeU v = some (.i .i64 ((0 : Nat) : Int)) := Nbx hv
   have e0 : (((0 : Nat) : Int) == Int.ofNat 0) = true := rfl
   simp only [Nag, ↓Z0, ↓Xp, ↓Xt, Xq, Xc, Nad, Naa, Nat.reduceAdd, Nat.reduceMul, Nat.reduceLT, Nat.reduceEqDiff, reduceIte, hlv, e0]
   refine ⟨nofun, _, rfl, ?_⟩
   simp only [NaX, ↓Z0, ↓Xp, ↓Xt, Xq, Xc, Nad, Naa, Nat.reduceAdd, Nat.reduceMul, Nat.reduceLT, Nat.reduceEqDiff, reduceIte]
   rfl
 | c :: l, v, fuel + 1, hv, hfu => by
   refine Nbr hx (NaT hv) (fun _ => rfl) (NaD hf ?_)
   unfold m52
   have hwc : weighsN (c :: l) = (c.toNat % 128 + 128 * weighsN l) % 18446744073709551616 := rfl
   rw [hwc]
   obtain ⟨L, hL⟩ : ∃ L, c :: l = L := ⟨_, rfl⟩
   have hLl : L.length = l.length + 1 := by rw [← hL]; rfl
   have hgd : L.getD 0 0 = c := by rw [← hL]; rfl
   have hdr : L.drop 1 = l := by rw [← hL]; rfl
   have hL0 : L ≠ [] := by rw [← hL]; simp
   rw [hL] at hv hfu
   have hlv := Nbx hv
   have e0 : ((L.length : Int) == Int.ofNat 0) = false := by simp; exact hL0
   have hvc := Nbp hv hL0
   subst hvc
   have hcl : (Nab L).length = L.length * 1 := by rw [Nah, Nat.mul_one]
   have h0 : 0 ≤ Int.ofNat 0 := Int.le_refl _
   have h1 : Int.ofNat 0 < (L.length : Int) := by show (0 : Int) < L.length; omega
   have hld := fun st => Ncn (st := st) (l := L) (i := 0) (by omega)
   obtain ⟨v2, hsl, hv2⟩ := Nfw hv (a := 1) (by omega)
   have hsl' : NbD 1 (some (.i .i64 (Int.ofNat 1))) none (.fsl L.length (Nab L)) = some v2 := hsl
   have hv2' : inL v2 = some l := by rw [hv2, hdr]
   have ih : Naj cfg (NaH cfg fuel) 52 [v2] = some (.i .u64 (weighsN l)) := Ngu hf hx l v2 fuel hv2' (by omega)
   have hdp : ∀ st, NaW st [v2] = some [v2] := fun st => NaA (by simp only [List.all_cons, NbB hv2', List.all_nil, Bool.and_self])
   have hcl2 : (PV.i .u64 (weighsN l : Int)).closedB = true := rfl
   have hrc : ∀ st key, Nau st key (.i .u64 (weighsN l : Int)) = some (.i .u64 (weighsN l : Int), st) := fun _ _ => rfl
   have hc2 := c.toNat_lt
   have h128 : ¬ (Int.ofNat 128 = 0) := by decide
   rw [hgd] at hld
   have hld' : ∀ st, loadP st 1 (.fptr ((Nab L).drop ((Int.ofNat 0).toNat * 1))) = some [.i .u8 (c.toNat : Int)] := hld
   have hrem : ((c.toNat : Nat) : Int).tmod (Int.ofNat 128) = ((c.toNat % 128 : Nat) : Int) := rfl
   have w1 : IntKind.u64.wrap ((c.toNat % 128 : Nat) : Int) = ((c.toNat % 128 : Nat) : Int) := NbU _ ⟨by omega, by omega⟩
   have hwl := Nca l
   generalize weighsN l = W at *
   have w2 : IntKind.u64.wrap (Int.ofNat 128 * (W : Int)) = ((128 * W % 18446744073709551616 : Nat) : Int) := by
    rw [IntKind.wrap_u64]
    show ((128 : Int) * (W : Int)) % 18446744073709551616 = _
    omega
   have w3 : IntKind.u64.wrap (((c.toNat % 128 : Nat) : Int) + ((128 * W % 18446744073709551616 : Nat) : Int)) = (((c.toNat % 128 + 128 * W) % 18446744073709551616 : Nat) : Int) := by
    rw [IntKind.wrap_u64]
    omega
   simp only [Nag, ↓Z0, ↓Xp, ↓Xt, Xq, Xc, Nad, Naa, Nat.reduceAdd, Nat.reduceMul, Nat.reduceLT, Nat.reduceEqDiff, reduceIte, hlv, e0, hcl, h0, h1, hld', h128, hrem, w1, hsl', hdp, ih, hcl2, hrc, w2, w3]
   refine ⟨nofun, _, rfl, ?_⟩
   simp only [NaX, ↓Z0, ↓Xp, ↓Xt, Xq, Xc, Nad, Naa, Nat.reduceAdd, Nat.reduceMul, Nat.reduceLT, Nat.reduceEqDiff, reduceIte]
def Nc0 : List PV → Option PV
 | [v] => match inL v with
   | some l => some (.i .u64 (weighsN l))
   | none => none
 | _ => none
theorem NiZ (args : List PV) (r : PV) (h : Nc0 args = some r) : ∃ fuel, evP cfgE0 fuel 52 args = some r := by
 unfold Nc0 at h
 split at h
 ·rename_i v
  split at h
  ·rename_i l hl
   simp only [Sj] at h
   subst h
   exact ⟨l.length + 1, Ngu (cfg := cfgE0) (by kernel_rfl) rfl l v _ hl (Nat.lt_succ_self _)⟩
  ·simp at h
 ·simp at h
def NoF : FuncId → Option (List PV → Option PV) := fun f => if f = 37 then some NdZ else if f = 50 then some Ncv else if f = 52 then some Nc0 else none
noncomputable def cfgR1 : Cfg := { fn := fun f => NbX f tblL, ext := NoF }
theorem Nck {Gl : Gmap} : CfgOK Go.Proofs.Try.prog Gl cfgE0 := Na7 Na5 fun f g h => by simp at h
theorem Nft {Gl : Gmap} : CfgOK Go.Proofs.Try.prog Gl cfgR1 := by
 refine Na7 Na5 ?_
 intro f g h
 unfold NoF at h
 split at h
 ·rename_i e; simp only [Sj] at h; subst h; subst e
  exact Nao Nck Neh
 split at h
 ·rename_i e; simp only [Sj] at h; subst h; subst e
  exact Nao Nck Ngv
 split at h
 ·rename_i e; simp only [Sj] at h; subst h; subst e
  exact Nao Nck NiZ
 ·simp at h
section
variable {cfg : Cfg} {callE : CallE}
theorem NlH (hx : cfg.ext 37 = some NdZ) {st : St} {key n : Nat} (hn : n < 18446744073709551616) : Nae (Naj cfg callE 37) false st key [.i .u64 n] = some (.rsl key 1 0 (Nai n).length, st.put key (some (.cells (Nab (Nai n)) false))) := by
 refine NaP (Neq (Ne5 _ _ _)) (r := .osl 1 (Nai n).length (Nab (Nai n))) ?_ (Na2 _ _)
 rw [Nac hx]
 unfold NdZ
 simp only [Int.toNat_natCast]
 rw [if_pos ⟨by omega, by omega⟩]
theorem NhA (hx : cfg.ext 50 = some Ncv) {st : St} {key : Nat} {v w v' w' : PV} {a b : List UInt8} (hd : NaW st [v, w] = some [v', w']) (ha : inL v' = some a) (hb : inL w' = some b) (hl : a.length + b.length ≤ 140737488355328) : Nae (Naj cfg callE 50) false st key [v, w] = some (.rsl key 1 0 (a ++ b).length, st.put key (some (.cells (Nab (a ++ b)) false))) := by
 refine NaP hd (r := .osl 1 (a ++ b).length (Nab (a ++ b))) ?_ (Na2 _ _)
 rw [Nac hx]
 unfold Ncv
 simp only [ha, hb]
 rw [if_pos hl]
end
theorem NdJ {st : St} {v : PV} {l : List UInt8} (h : inL v = some l) : deep st 12 v = some v := NcP 11 (NbB h)
theorem NkN {cfg : Cfg} (hf : cfg.fn 44 = some m44) (hx1 : cfg.ext 37 = some NdZ) (hx2 : cfg.ext 50 = some Ncv) {fuel : Nat} {v : PV} {a : List UInt8} (hv : inL v = some a) {N : Nat} (hN : N < 18446744073709551616) (hl : a.length + 10 ≤ 140737488355328) :
 ∃ r st', NaH cfg (fuel + 1) 44 [v, .i .u64 N] { sto := .leaf, cnt := 1 } = some (r, st') ∧ ∃ q, r = .rsl q 1 0 (a ++ Nai N).length ∧ st'.get q = some (.cells (Nab (a ++ Nai N)) false) := by
 refine NaD hf ?_
 unfold m44
 have hc1 := fun st key => NlH (callE := NaH cfg fuel) hx1 (st := st) (key := key) hN
 have hvl := NbS N
 have hc2 : ∀ (S : St) (n key key2 : Nat), Nae (Naj cfg (NaH cfg fuel) 50) false ⟨(S.put key (some (.cells (Nab (Nai N)) false))).sto, n⟩ key2 [v, .rsl key 1 0 (Nai N).length] = some (.rsl key2 1 0 (a ++ Nai N).length, (⟨(S.put key (some (.cells (Nab (Nai N)) false))).sto, n⟩ : St).put key2 (some (.cells (Nab (a ++ Nai N)) false))) := fun S n key key2 => NhA hx2 (NgA (NdJ hv) (NhR (No3 S n key _))) hv (Nbv _) (by omega)
 simp only [Nag, ↓Z0, ↓Xp, ↓Xt, Xq, Xc, Nad, Naa, Nat.reduceAdd, Nat.reduceMul, Nat.reduceLT, Nat.reduceEqDiff, reduceIte, hc1, hc2]
 refine ⟨nofun, _, rfl, _, ?_, St.get_putk _ _ _⟩
 simp only [NaX, ↓Z0, ↓Xp, ↓Xt, Xq, Xc, Nad, Naa, Nat.reduceAdd, Nat.reduceMul, Nat.reduceLT, Nat.reduceEqDiff, reduceIte]
def NgP : List PV → Option PV
 | [v, .i .u64 n] => match inL v with
   | some a => if 0 ≤ n ∧ n < 18446744073709551616 ∧ a.length + 10 ≤ 140737488355328 then some (.osl 1 (a ++ Nai n.toNat).length (Nab (a ++ Nai n.toNat))) else none
   | none => none
 | _ => none
theorem Njr (args : List PV) (r : PV) (h : NgP args = some r) : ∃ fuel, evP cfgR1 fuel 44 args = some r := by
 unfold NgP at h
 split at h
 ·rename_i v n
  split at h
  ·rename_i a ha
   split at h
   ·rename_i hc
    simp only [Sj] at h
    subst h
    obtain ⟨r, st', h1, q, h2, h3⟩ := NkN (cfg := cfgR1) (by kernel_rfl) (by kernel_rfl) (by kernel_rfl) (fuel := 0) ha (N := n.toNat) (by omega) hc.2.2
    rw [show ((n.toNat : Nat) : Int) = n by omega] at h1
    exact ⟨0 + 1, Nby (by kernel_rfl) (NaT ha) ⟨r, st', h1, by rw [h2]; exact NaK h3⟩⟩
   ·simp at h
  ·simp at h
 ·simp at h
def No4 : FuncId → Option (List PV → Option PV) := fun f => if f = 44 then some NgP else none
noncomputable def cfgR2 : Cfg := { fn := fun f => NbX f tblL, ext := No4 }
theorem NkT {Gl : Gmap} : CfgOK Go.Proofs.Try.prog Gl cfgR2 := by
 refine Na7 Na5 ?_
 intro f g h
 unfold No4 at h
 split at h
 ·rename_i e; simp only [Sj] at h; subst h; subst e
  exact Nao Nft Njr
 ·simp at h
theorem NmR {cfg : Cfg} (hf : cfg.fn 31 = some m31) (hx : cfg.ext 44 = some NgP) {fuel : Nat} {v : PV} {a : List UInt8} (hv : inL v = some a) {n : Int} (hn : Nc3 n) (hl : a.length + 10 ≤ 140737488355328) :
 ∃ r st', NaH cfg (fuel + 1) 31 [v, .i .i64 n] { sto := .leaf, cnt := 1 } = some (r, st') ∧ ∃ q, r = .rsl q 1 0 (a ++ Nai (foldN n)).length ∧ st'.get q = some (.cells (Nab (a ++ Nai (foldN n))) false) := by
 refine NaD hf ?_
 unfold m31
 unfold Nc3 at hn
 have hc : ∀ (N : Nat) (st : St) key, N < 18446744073709551616 → Nae (Naj cfg (NaH cfg fuel) 44) false st key [v, .i .u64 (N : Int)] = some (.rsl key 1 0 (a ++ Nai N).length, st.put key (some (.cells (Nab (a ++ Nai N)) false))) := by
  intro N st key hN
  refine NaP (NgA (NdJ hv) (Ne5 _ _ _)) (r := .osl 1 (a ++ Nai N).length (Nab (a ++ Nai N))) ?_ (Na2 _ _)
  rw [Nac hx]
  unfold NgP
  simp only [hv, Int.toNat_natCast]
  rw [if_pos ⟨by omega, by omega, hl⟩]
 by_cases hneg : n < 0
 ·have e0 : n < Int.ofNat 0 := hneg
  have hfold : foldN n = (-2 * n - 1).toNat := by unfold foldN; rw [if_neg (by omega)]
  have w1 : IntKind.i64.wrap (Int.negSucc 0 - n) = ((-1 - n).toNat : Int) := by
   rw [NaI _ ⟨by show _ ≤ (-1 : Int) - n; omega, by show (-1 : Int) - n < _; omega⟩]
   show (-1 : Int) - n = _
   omega
  have w2 : IntKind.u64.wrap (((-1 - n).toNat : Nat) : Int) = ((-1 - n).toNat : Int) := NbU _ ⟨by omega, by omega⟩
  have w3 : IntKind.u64.wrap (Int.ofNat 2 * ((-1 - n).toNat : Int)) = ((2 * (-1 - n).toNat : Nat) : Int) := by
   rw [NbU _ ⟨by show 0 ≤ (2 : Int) * _; omega, by show (2 : Int) * _ < _; omega⟩]
   show (2 : Int) * _ = _
   omega
  have w4 : IntKind.u64.wrap (((2 * (-1 - n).toNat : Nat) : Int) + Int.ofNat 1) = ((foldN n : Nat) : Int) := by
   rw [NbU _ ⟨by show 0 ≤ ((2 * (-1 - n).toNat : Nat) : Int) + 1; omega, by show ((2 * (-1 - n).toNat : Nat) : Int) + 1 < _; omega⟩]
   show ((2 * (-1 - n).toNat : Nat) : Int) + 1 = _
   omega
  have hc' := fun st key => hc (foldN n) st key (by omega)
  simp only [Nag, ↓Z0, ↓Xp, ↓Xt, Xq, Xc, Nad, Naa, Nat.reduceAdd, Nat.reduceMul, Nat.reduceLT, Nat.reduceEqDiff, reduceIte, e0, w1, w2, w3, w4, hc']
  refine ⟨nofun, _, rfl, _, ?_, St.get_putk _ _ _⟩
  simp only [NaX, ↓Z0, ↓Xp, ↓Xt, Xq, Xc, Nad, Naa, Nat.reduceAdd, Nat.reduceMul, Nat.reduceLT, Nat.reduceEqDiff, reduceIte]
 ·have e0 : ¬ n < Int.ofNat 0 := hneg
  have hfold : foldN n = (2 * n).toNat := by unfold foldN; rw [if_pos (by omega)]
  have w2 : IntKind.u64.wrap n = n := NbU _ ⟨by omega, by omega⟩
  have w3 : IntKind.u64.wrap (Int.ofNat 2 * n) = ((foldN n : Nat) : Int) := by
   rw [NbU _ ⟨by show 0 ≤ (2 : Int) * n; omega, by show (2 : Int) * n < _; omega⟩]
   show (2 : Int) * n = _
   omega
  have hc' := fun st key => hc (foldN n) st key (by omega)
  simp only [Nag, ↓Z0, ↓Xp, ↓Xt, Xq, Xc, Nad, Naa, Nat.reduceAdd, Nat.reduceMul, Nat.reduceLT, Nat.reduceEqDiff, reduceIte, e0, w2, w3, hc']
  refine ⟨nofun, _, rfl, _, ?_, St.get_putk _ _ _⟩
  simp only [NaX, ↓Z0, ↓Xp, ↓Xt, Xq, Xc, Nad, Naa, Nat.reduceAdd, Nat.reduceMul, Nat.reduceLT, Nat.reduceEqDiff, reduceIte]
def NkI : List PV → Option PV
 | [v, .i .i64 n] => match inL v with
   | some a => if -9223372036854775808 ≤ n ∧ n < 9223372036854775808 ∧ a.length + 10 ≤ 140737488355328 then some (.osl 1 (a ++ Nai (foldN n)).length (Nab (a ++ Nai (foldN n)))) else none
   | none => none
 | _ => none
theorem Nly (args : List PV) (r : PV) (h : NkI args = some r) : ∃ fuel, evP cfgR2 fuel 31 args = some r := by
 unfold NkI at h
 split at h
 ·rename_i v n
  split at h
  ·rename_i a ha
   split at h
   ·rename_i hc
    simp only [Sj] at h
    subst h
    obtain ⟨r, st', h1, q, h2, h3⟩ := NmR (cfg := cfgR2) (by kernel_rfl) (by kernel_rfl) (fuel := 0) ha (n := n) (by unfold Nc3; omega) hc.2.2
    exact ⟨0 + 1, Nby (by kernel_rfl) (NaT ha) ⟨r, st', h1, by rw [h2]; exact NaK h3⟩⟩
   ·simp at h
  ·simp at h
 ·simp at h
end Go.Pe
set_option linter.unusedVariables false
set_option linter.unusedSimpArgs false
namespace Go.Pe
open Go Go.Am Go.RowKit

theorem NgY (k r A : Nat) (h : r < 2 ^ k) : 2 ^ k * A + r = 2 ^ k * A ^^^ r := by
 rw [Nat.two_pow_add_eq_or_of_lt h]
 apply Nat.eq_of_testBit_eq
 intro i
 rw [Nat.testBit_or, Nat.testBit_xor]
 by_cases hi : i < k
 ·have : (2 ^ k * A).testBit i = false := by
   rw [Nat.testBit_two_pow_mul]; simp; omega
  rw [this]; simp
 ·have : r.testBit i = false := Nat.testBit_lt_two_pow (Nat.lt_of_lt_of_le h (Nat.pow_le_pow_right (by decide) (by omega)))
  rw [this]; simp
theorem Ngf (L i : Nat) (h : L ≤ i) : topFrom L i = topFrom L (i + 1) ^^^ (if i < 32 then 2 ^ (i - L) else 0) := by
 unfold topFrom
 rw [if_pos h, if_pos (by omega)]
 by_cases h32 : i < 32
 ·rw [if_pos h32]
  have e1 : ∀ j : Nat, j ≤ 32 → 4294967295 / 2 ^ j = 2 ^ (32 - j) - 1 := by
   intro j hj
   have : ∀ j : Fin 33, 4294967295 / 2 ^ j.val = 2 ^ (32 - j.val) - 1 := by decide
   exact this ⟨j, by omega⟩
  rw [e1 i (by omega), e1 (i + 1) (by omega)]
  have e2 : 2 ^ (32 - i) = 2 * 2 ^ (32 - (i + 1)) := by rw [← Nat.pow_succ']; congr 1; omega
  have e3 : 2 ^ (i + 1 - L) = 2 * 2 ^ (i - L) := by rw [← Nat.pow_succ']; congr 1; omega
  have h1 := Nat.two_pow_pos (32 - (i + 1))
  obtain ⟨A, hA⟩ : ∃ A, 2 ^ (32 - (i + 1)) = A + 1 := ⟨2 ^ (32 - (i + 1)) - 1, by omega⟩
  rw [e2, e3, hA]
  have h2 : A * (2 * 2 ^ (i - L)) = 2 ^ (i - L + 1) * A := by rw [Nat.pow_succ', Nat.mul_comm]
  have h3 : 2 ^ (i - L) < 2 ^ (i - L + 1) := Nat.pow_lt_pow_right (by decide) (by omega)
  rw [show A + 1 - 1 = A by omega, h2, ← NgY _ _ _ h3]
  rw [show 2 * (A + 1) - 1 = 2 * A + 1 by omega, Nat.pow_succ', Nat.add_mul, Nat.one_mul]
  congr 1
  rw [Nat.mul_comm (2 * A), Nat.mul_comm 2 (2 ^ (i - L)), Nat.mul_assoc]
 ·rw [if_neg h32, Nat.xor_zero]
  have e32 : (2 : Nat) ^ 32 = 4294967296 := by decide
  have h1 : 2 ^ 32 ≤ 2 ^ i := Nat.pow_le_pow_right (by decide) (by omega)
  have h2 : 2 ^ 32 ≤ 2 ^ (i + 1) := Nat.pow_le_pow_right (by decide) (by omega)
  rw [Nat.div_eq_of_lt (by omega), Nat.div_eq_of_lt (by omega), Nat.zero_mul, Nat.zero_mul]
theorem Nhk (L : Nat) : topFrom L (L + 32) = 0 := by
 unfold topFrom
 have e32 : (2 : Nat) ^ 32 = 4294967296 := by decide
 have h1 : 2 ^ 32 ≤ 2 ^ (L + 32) := Nat.pow_le_pow_right (by decide) (by omega)
 rw [if_pos (by omega), Nat.div_eq_of_lt (by omega), Nat.zero_mul]
theorem Nix (L i : Nat) : topFrom L i < 4294967296 := by
 unfold topFrom
 split
 ·have h : 4294967295 / 2 ^ i * 2 ^ (i - L) ≤ 4294967295 / 2 ^ i * 2 ^ i := Nat.mul_le_mul_left _ (Nat.pow_le_pow_right (by decide) (by omega))
  have h2 := Nat.div_mul_le_self 4294967295 (2 ^ i)
  omega
 ·omega
theorem Nhg (L : Nat) : topFrom L L = 4294967295 / 2 ^ L := by
 unfold topFrom
 rw [if_pos (Nat.le_refl _), Nat.sub_self, Nat.pow_zero, Nat.mul_one]
def Ndk : List PV → Option PV
 | [.i .u32 n] => if 0 ≤ n ∧ n < 4294967296 then some (.i .u32 ((NbR n.toNat : Nat) : Int)) else none
 | _ => none
theorem NiD (args : List PV) (r : PV) (h : Ndk args = some r) : ∃ fuel, evP cfgE0 fuel 55 args = some r := by
 unfold Ndk at h
 split at h
 ·rename_i z
  split at h
  ·rename_i hc
   simp only [Sj] at h
   subst h
   obtain ⟨n, rfl⟩ : ∃ n : Nat, z = (n : Int) := ⟨z.toNat, by omega⟩
   rw [Int.toNat_natCast]
   refine ⟨0 + 1, Nbr rfl rfl (fun _ => rfl) (NaD (by kernel_rfl : cfgE0.fn 55 = some m55) ?_)⟩
   unfold m55
   have h2 : ¬ (Int.ofNat 2 = 0) := by decide
   have hrem : (n : Int).tmod (Int.ofNat 2) = ((n % 2 : Nat) : Int) := rfl
   have hquo : (n : Int).tdiv (Int.ofNat 2) = ((n / 2 : Nat) : Int) := rfl
   have wq : IntKind.u32.wrap ((n / 2 : Nat) : Int) = ((n / 2 : Nat) : Int) := NdS _ ⟨by omega, by omega⟩
   by_cases hb : n % 2 = 1
   ·have e1 : (((n % 2 : Nat) : Int) == Int.ofNat 1) = true := by rw [hb]; rfl
    have hx : NbK .xor .u32 ((n / 2 : Nat) : Int) (Int.ofNat 3988292384) = some (.i .u32 ((n / 2 ^^^ 3988292384 : Nat) : Int)) := NbY (n / 2) 3988292384 (by omega) (by decide)
    simp only [Nag, ↓Z0, ↓Xp, ↓Xt, Xq, Xc, Nad, Naa, Nat.reduceAdd, Nat.reduceMul, Nat.reduceLT, Nat.reduceEqDiff, reduceIte, h2, hrem, hquo, wq, e1, hx]
    refine ⟨nofun, _, rfl, ?_⟩
    simp only [NaX, ↓Z0, ↓Xp, ↓Xt, Xq, Xc, Nad, Naa, Nat.reduceAdd, Nat.reduceMul, Nat.reduceLT, Nat.reduceEqDiff, reduceIte]
    unfold NbR
    rw [if_pos hb]
   ·have e1 : (((n % 2 : Nat) : Int) == Int.ofNat 1) = false := by rw [show n % 2 = 0 by omega]; rfl
    simp only [Nag, ↓Z0, ↓Xp, ↓Xt, Xq, Xc, Nad, Naa, Nat.reduceAdd, Nat.reduceMul, Nat.reduceLT, Nat.reduceEqDiff, reduceIte, h2, hrem, hquo, wq, e1]
    refine ⟨nofun, _, rfl, ?_⟩
    simp only [NaX, ↓Z0, ↓Xp, ↓Xt, Xq, Xc, Nad, Naa, Nat.reduceAdd, Nat.reduceMul, Nat.reduceLT, Nat.reduceEqDiff, reduceIte]
    unfold NbR
    rw [if_neg hb]
  ·simp at h
 ·simp at h
theorem NmU {cfg : Cfg} (hf : cfg.fn 51 = some m51) (hx : cfg.ext 55 = some Ndk) {v : PV} {l : List UInt8} (hv : inL v = some l) (hl : l.length ≤ 140737488355328) {fuel : Nat} (hfu : 8 * l.length + 40 ≤ fuel) :
 ∃ r st', NaH cfg (fuel + 1) 51 [v] { sto := .leaf, cnt := 1 } = some (r, st') ∧ r = .i .u32 ((crc l : Nat) : Int) := by
 refine NaD hf ?_
 unfold m51
 have hlv := Nbx hv
 obtain ⟨L, hL⟩ : ∃ L, 8 * l.length = L := ⟨_, rfl⟩
 have wL : IntKind.i64.wrap (Int.ofNat 8 * (l.length : Int)) = (L : Int) := by
  rw [NaI _ ⟨by show _ ≤ (8 : Int) * _; omega, by show (8 : Int) * _ < _; omega⟩]
  show (8 : Int) * _ = _
  omega
 have w31 : IntKind.i64.wrap ((L : Int) + Int.ofNat 31) = ((L + 32 : Nat) : Int) - 1 := by
  rw [NaI _ ⟨by show _ ≤ (L : Int) + 31; omega, by show (L : Int) + 31 < _; omega⟩]
  show (L : Int) + 31 = _
  omega
 have wL1 : IntKind.i64.wrap ((L : Int) - Int.ofNat 1) = (L : Int) - 1 := NaI _ ⟨by show _ ≤ (L : Int) - 1; omega, by show (L : Int) - 1 < _; omega⟩
 have hX := Nnd l
 have hXt := Nhs l
 have hXb := NmP l
 obtain ⟨X, hXd⟩ : ∃ X, 4294967295 ^^^ Nfe l = X := ⟨_, rfl⟩
 rw [hXd, hL] at hX hXt
 simp only [hXd, hL] at hXb
 refine Za (fun x => x.env.get 0 = v) ?_ ?_
 ·simp only [↓Z0, ↓Xp, ↓Xt, Xq, Xc, Nad, Naa, Nat.reduceAdd, Nat.reduceMul, Nat.reduceLT, Nat.reduceEqDiff, reduceIte, Xm, Nat.reduceLeDiff, Nag]
  (repeat' (first | exact True.intro | rfl | assumption | omega | apply And.intro | exact St.get_putk _ _ _ | refine ⟨_, rfl, ?_⟩))
 rintro ⟨env, ⟨sto, c⟩⟩ g0
 simp only at g0
 refine Za (fun x => x.env.get 0 = v ∧ x.env.get 3 = .i .u32 (Int.ofNat 0) ∧ x.env.get 4 = .i .u32 (Int.ofNat 1)) ?_ ?_
 ·simp only [↓Z0, ↓Xp, ↓Xt, Xq, Xc, Nad, Naa, Nat.reduceAdd, Nat.reduceMul, Nat.reduceLT, Nat.reduceEqDiff, reduceIte, Xm, Nat.reduceLeDiff, g0]
  (repeat' (first | exact True.intro | rfl | assumption | omega | apply And.intro | exact St.get_putk _ _ _ | refine ⟨_, rfl, ?_⟩))
 clear g0
 rintro ⟨env, ⟨sto, c⟩⟩ ⟨g0, g3, g4⟩
 simp only at g0 g3 g4
 -- what is still in the register
 refine Za (fun x => x.env.get 0 = v ∧ x.env.get 3 = .i .u32 ((sumFrom X L L : Nat) : Int) ∧ x.env.get 4 = .i .u32 ((msn 0 1 : Nat) : Int)) ?_ ?_
 ·rw [Z0]
  simp only [↓Xp, ↓Xt, Xq, Xc, Nad, Naa, Nat.reduceAdd, Nat.reduceMul, Nat.reduceLT, Nat.reduceEqDiff, reduceIte, g0, hlv, wL, w31]
  refine Z9 (k := L + 32 - L) (fun d x => ∃ j : Nat, L ≤ j ∧ j ≤ L + 32 ∧ d = j - L ∧ x.env.get 0 = v ∧ x.env.get 3 = .i .u32 ((topFrom L j : Nat) : Int) ∧ x.env.get 4 = .i .u32 ((msn 0 1 : Nat) : Int) ∧ x.env.get 5 = .i .i64 ((j : Int) - 1)) ?_ ?_ (by omega)
  ·clear g0 g3 g4
   rintro d ⟨env, ⟨sto, c⟩⟩ ⟨j, hj1, hj2, rfl, g0, g3, g4, g5⟩
   simp only at g0 g3 g4 g5
   by_cases hlt : L < j
   ·obtain ⟨i, rfl⟩ : ∃ i, j = i + 1 := ⟨j - 1, by omega⟩
    have g5' : env.get 5 = .i .i64 (i : Int) := by rw [g5]; congr 1; omega
    clear g5
    have e1 : (i : Int) ≥ (L : Int) := by omega
    have hs := Ngf L i (by omega)
    have wd : IntKind.i64.wrap ((i : Int) - Int.ofNat 1) = (i : Int) - 1 := NaI _ ⟨by show _ ≤ (i : Int) - 1; omega, by show (i : Int) - 1 < _; omega⟩
    by_cases h32 : i < 32
    ·have e2 : (i : Int) < Int.ofNat 32 := by show (i : Int) < 32; omega
     rw [if_pos h32] at hs
     obtain ⟨t, ht⟩ : ∃ t, i - L = t := ⟨_, rfl⟩
     rw [ht] at hs
     have wt : IntKind.i64.wrap ((i : Int) - (L : Int)) = (t : Int) := by
      rw [NaI _ ⟨by omega, by omega⟩]; omega
     have ht0 : ¬ ((t : Int) < 0) := by omega
     have hpw : (2 : Nat) ^ t < 4294967296 := by
      have : (2 : Nat) ^ t ≤ 2 ^ 31 := Nat.pow_le_pow_right (by decide) (by omega)
      have e31 : (2 : Nat) ^ 31 = 2147483648 := by decide
      omega
     have hsh : IntKind.u32.wrap (Int.ofNat 1 * 2 ^ (min t IntKind.u32.bits)) = ((2 ^ t : Nat) : Int) := by
      have h1 : Int.ofNat 1 * 2 ^ (min t IntKind.u32.bits) = ((2 ^ t : Nat) : Int) := by
       rw [show min t IntKind.u32.bits = t by show min t 32 = t; omega]
       show (1 : Int) * 2 ^ t = _
       rw [Int.one_mul]; push_cast; rfl
      rw [h1]
      exact NdS _ ⟨Int.natCast_nonneg _, Int.ofNat_lt.2 hpw⟩
     have hxo := NbY (topFrom L (i + 1)) (2 ^ t) (Nix _ _) hpw
     rw [← hs] at hxo
     simp only [↓Z0, ↓Xp, ↓Xt, Xq, Xc, Nad, Naa, Nat.reduceAdd, Nat.reduceMul, Nat.reduceLT, Nat.reduceEqDiff, reduceIte, g0, g3, g4, g5', hlv, wL, e1, e2, wt, ht0, hsh, hxo, wd]
     refine ⟨i - L, by omega, i, ?_⟩
     (repeat' (first | exact True.intro | rfl | assumption | omega | apply And.intro))
    ·have e2 : ¬ (i : Int) < Int.ofNat 32 := by show ¬ (i : Int) < 32; omega
     rw [if_neg h32, Nat.xor_zero] at hs
     rw [← hs] at g3
     simp only [↓Z0, ↓Xp, ↓Xt, Xq, Xc, Nad, Naa, Nat.reduceAdd, Nat.reduceMul, Nat.reduceLT, Nat.reduceEqDiff, reduceIte, g0, g3, g4, g5', hlv, wL, e1, e2, wd]
     refine ⟨i - L, by omega, i, ?_⟩
     (repeat' (first | exact True.intro | rfl | assumption | omega | apply And.intro))
   ·have hjL : j = L := by omega
    subst hjL
    have e1 : ¬ ((j : Int) - 1 ≥ (j : Int)) := by omega
    rw [Nhg, ← hXt] at g3
    simp only [↓Z0, ↓Xp, ↓Xt, Xq, Xc, Nad, Naa, Nat.reduceAdd, Nat.reduceMul, Nat.reduceLT, Nat.reduceEqDiff, reduceIte, g0, g3, g4, g5, hlv, wL, e1]
    (repeat' (first | exact True.intro | rfl | assumption | omega | apply And.intro))
  ·refine ⟨L + 32, by omega, Nat.le_refl _, rfl, ?_⟩
   simp only [Env.get_put, Nat.reduceEqDiff, if_false, if_true, g0, g3, g4]
   rw [Nhk]
   (repeat' (first | exact True.intro | rfl | assumption | omega | apply And.intro))
 clear g0 g3 g4
 rintro ⟨env, ⟨sto, c⟩⟩ ⟨g0, g3, g4⟩
 simp only at g0 g3 g4
 refine Za (fun x => x.env.get 3 = .i .u32 ((sumFrom X L 0 : Nat) : Int)) ?_ ?_
 ·rw [Z0]
  simp only [↓Xp, ↓Xt, Xq, Xc, Nad, Naa, Nat.reduceAdd, Nat.reduceMul, Nat.reduceLT, Nat.reduceEqDiff, reduceIte, g0, hlv, wL, wL1]
  refine Z9 (k := L) (fun d x => d ≤ L ∧ x.env.get 0 = v ∧ sumFrom X L d < 4294967296 ∧ x.env.get 3 = .i .u32 ((sumFrom X L d : Nat) : Int) ∧ x.env.get 4 = .i .u32 ((msn (L - d) 1 : Nat) : Int) ∧ x.env.get 6 = .i .i64 ((d : Int) - 1)) ?_ ?_ (by omega)
  ·clear g0 g3 g4
   rintro d ⟨env, ⟨sto, c⟩⟩ ⟨hd, g0, hsl, g3, g4, g6⟩
   simp only at g0 g3 g4 g6
   by_cases hlt : 0 < d
   ·obtain ⟨i, rfl⟩ : ∃ i, d = i + 1 := ⟨d - 1, by omega⟩
    have g6' : env.get 6 = .i .i64 (i : Int) := by rw [g6]; congr 1; omega
    clear g6
    have hl0 : l ≠ [] := by intro e; rw [e] at hL; simp at hL; omega
    rw [Nbp hv hl0] at g0 ⊢
    have e1 : (i : Int) ≥ Int.ofNat 0 := by show (i : Int) ≥ 0; omega
    have wd : IntKind.i64.wrap ((i : Int) - Int.ofNat 1) = (i : Int) - 1 := NaI _ ⟨by show _ ≤ (i : Int) - 1; omega, by show (i : Int) - 1 < _; omega⟩
    have hst := Ngn X L i (by omega)
    have hbit := hXb i (by omega)
    have hwl : msn (L - (i + 1)) 1 < 4294967296 := Nj9 (by decide) _
    have hw1 : NbR (msn (L - (i + 1)) 1) = msn (L - i) 1 := by rw [← NkX]; congr 1; omega
    have hwl2 : msn (L - i) 1 < 4294967296 := Nj9 (by decide) _
    have hch : ∀ (st : St) key, Nae (Naj cfg (NaH cfg fuel) 55) false st key [.i .u32 ((msn (L - (i + 1)) 1 : Nat) : Int)] = some (.i .u32 ((msn (L - i) 1 : Nat) : Int), st) := by
     intro st key
     refine Nap rfl ?_ rfl
     rw [Nac hx]
     unfold Ndk
     simp only [Int.toNat_natCast, hw1]
     rw [if_pos ⟨by omega, by omega⟩]
    have h8 : ¬ (Int.ofNat 8 = 0) := by decide
    have h2 : ¬ (Int.ofNat 2 = 0) := by decide
    have hq8 : (i : Int).tdiv (Int.ofNat 8) = ((i / 8 : Nat) : Int) := rfl
    have hr8 : (i : Int).tmod (Int.ofNat 8) = ((i % 8 : Nat) : Int) := rfl
    have wq : IntKind.i64.wrap ((i / 8 : Nat) : Int) = ((i / 8 : Nat) : Int) := NaI _ ⟨by omega, by omega⟩
    have hcl : (Nab l).length = l.length * 1 := by rw [Nah, Nat.mul_one]
    have h0i : 0 ≤ ((i / 8 : Nat) : Int) := by omega
    have hil : ((i / 8 : Nat) : Int) < (l.length : Int) := by omega
    have hld := fun st => Ncn (st := st) (l := l) (i := i / 8) (by omega)
    have hbe : bi l (i / 8) = (l.getD (i / 8) 0).toNat := rfl
    rw [hbe] at hbit
    have hbt := (l.getD (i / 8) 0).toNat_lt
    generalize (l.getD (i / 8) 0).toNat = B at *
    have ht0 : ¬ (((i % 8 : Nat) : Int) < 0) := by omega
    have hsh : (B : Int).fdiv (2 ^ (min (i % 8) IntKind.u8.bits)) = ((B / 2 ^ (i % 8) : Nat) : Int) := by
     rw [show min (i % 8) IntKind.u8.bits = i % 8 by show min (i % 8) 8 = _; omega]
     rw [Int.fdiv_eq_ediv_of_nonneg _ (Int.pow_nonneg (by decide))]
     push_cast
     rfl
    have hr2 : ((B / 2 ^ (i % 8) : Nat) : Int).tmod (Int.ofNat 2) = ((B / 2 ^ (i % 8) % 2 : Nat) : Int) := rfl
    have hsl2 : sumFrom X L i < 4294967296 := by
     rw [hst]
     split
     ·exact xor_lt32 hsl hwl2
     ·rw [Nat.xor_zero]; exact hsl
    have hxo := NbY (sumFrom X L (i + 1)) (msn (L - i) 1) hsl hwl2
    generalize B / 2 ^ (i % 8) = Y at *
    have heq1 : NjH true (.b true) (.b true) = some (.b false) := rfl
    have heq2 : NjH true (.b true) (.b false) = some (.b true) := rfl
    have heq3 : NjH true (.b false) (.b true) = some (.b true) := rfl
    have heq4 : NjH true (.b false) (.b false) = some (.b false) := rfl
    by_cases hY : Y % 2 = 1
    ·have e3 : (((Y % 2 : Nat) : Int) == Int.ofNat 1) = true := by rw [hY]; rfl
     by_cases h32 : i < 32
     ·have e4 : (i : Int) < Int.ofNat 32 := by show (i : Int) < 32; omega
      rw [if_pos h32] at hbit
      rw [if_neg (by omega), Nat.xor_zero] at hst
      simp only [↓Z0, ↓Xp, ↓Xt, Xq, Xc, Nad, Naa, Nat.reduceAdd, Nat.reduceMul, Nat.reduceLT, Nat.reduceEqDiff, reduceIte, g0, g3, g4, g6', e1, hch, h8, hq8, hr8, wq, hcl, h0i, hil, hld, ht0, hsh, h2, hr2, e3, e4, heq1, wd]
      refine ⟨i, by omega, by omega, ?_⟩
      rw [hst]
      (repeat' (first | exact True.intro | rfl | assumption | omega | apply And.intro))
     ·have e4 : ¬ (i : Int) < Int.ofNat 32 := by show ¬ (i : Int) < 32; omega
      rw [if_neg h32] at hbit
      rw [if_pos (by omega)] at hst
      rw [← hst] at hxo
      simp only [↓Z0, ↓Xp, ↓Xt, Xq, Xc, Nad, Naa, Nat.reduceAdd, Nat.reduceMul, Nat.reduceLT, Nat.reduceEqDiff, reduceIte, g0, g3, g4, g6', e1, hch, h8, hq8, hr8, wq, hcl, h0i, hil, hld, ht0, hsh, h2, hr2, e3, e4, heq2, hxo, wd]
      refine ⟨i, by omega, by omega, ?_⟩
      (repeat' (first | exact True.intro | rfl | assumption | omega | apply And.intro))
    ·have e3 : (((Y % 2 : Nat) : Int) == Int.ofNat 1) = false := by rw [show Y % 2 = 0 by omega]; rfl
     by_cases h32 : i < 32
     ·have e4 : (i : Int) < Int.ofNat 32 := by show (i : Int) < 32; omega
      rw [if_pos h32] at hbit
      rw [if_pos (by omega)] at hst
      rw [← hst] at hxo
      simp only [↓Z0, ↓Xp, ↓Xt, Xq, Xc, Nad, Naa, Nat.reduceAdd, Nat.reduceMul, Nat.reduceLT, Nat.reduceEqDiff, reduceIte, g0, g3, g4, g6', e1, hch, h8, hq8, hr8, wq, hcl, h0i, hil, hld, ht0, hsh, h2, hr2, e3, e4, heq3, hxo, wd]
      refine ⟨i, by omega, by omega, ?_⟩
      (repeat' (first | exact True.intro | rfl | assumption | omega | apply And.intro))
     ·have e4 : ¬ (i : Int) < Int.ofNat 32 := by show ¬ (i : Int) < 32; omega
      rw [if_neg h32] at hbit
      rw [if_neg (by omega), Nat.xor_zero] at hst
      simp only [↓Z0, ↓Xp, ↓Xt, Xq, Xc, Nad, Naa, Nat.reduceAdd, Nat.reduceMul, Nat.reduceLT, Nat.reduceEqDiff, reduceIte, g0, g3, g4, g6', e1, hch, h8, hq8, hr8, wq, hcl, h0i, hil, hld, ht0, hsh, h2, hr2, e3, e4, heq4, wd]
      refine ⟨i, by omega, by omega, ?_⟩
      rw [hst]
      (repeat' (first | exact True.intro | rfl | assumption | omega | apply And.intro))
   ·have hd0 : d = 0 := by omega
    subst hd0
    have e1 : ¬ (((0 : Nat) : Int) - 1 ≥ Int.ofNat 0) := by decide
    simp only [↓Z0, ↓Xp, ↓Xt, Xq, Xc, Nad, Naa, Nat.reduceAdd, Nat.reduceMul, Nat.reduceLT, Nat.reduceEqDiff, reduceIte, g0, g3, g4, g6, e1]
  ·simp only [Env.get_put, Nat.reduceEqDiff, if_false, if_true, g0, g3, g4, Nat.sub_self]
   refine ⟨Nat.le_refl _, trivial, ?_, ?_⟩
   ·rw [hXt]
    exact Nat.lt_of_le_of_lt (Nat.div_le_self _ _) (by decide)
   ·(repeat' (first | exact True.intro | rfl | assumption | omega | apply And.intro))
 clear g0 g3 g4
 rintro ⟨env, st1⟩ g3
 simp only at g3
 have hcr := Njz l
 have w4 : IntKind.u32.wrap (Int.ofNat 4294967295 - ((sumFrom X L 0 : Nat) : Int)) = ((crc l : Nat) : Int) := by
  rw [hX]
  have h1 := NkH l (r := 4294967295) (by decide)
  rw [NdS _ ⟨by show 0 ≤ (4294967295 : Int) - _; omega, by show (4294967295 : Int) - _ < _; omega⟩]
  unfold crc
  show (4294967295 : Int) - _ = _
  omega
 simp only [↓Z0, ↓Xp, ↓Xt, Xq, Xc, Nad, Naa, Nat.reduceAdd, Nat.reduceMul, Nat.reduceLT, Nat.reduceEqDiff, reduceIte, g3, w4]
 refine ⟨nofun, _, rfl, ?_⟩
 simp only [NaX, ↓Z0, ↓Xp, ↓Xt, Xq, Xc, Nad, Naa, Nat.reduceAdd, Nat.reduceMul, Nat.reduceLT, Nat.reduceEqDiff, reduceIte]
def NkF : List PV → Option PV
 | [v] => match inL v with
   | some l => if l.length ≤ 140737488355328 then some (.i .u32 ((crc l : Nat) : Int)) else none
   | none => none
 | _ => none
def Nol : FuncId → Option (List PV → Option PV) := fun f => if f = 55 then some Ndk else none
noncomputable def cfgR3 : Cfg := { fn := fun f => NbX f tblL, ext := Nol }
theorem Nk5 {Gl : Gmap} : CfgOK Go.Proofs.Try.prog Gl cfgR3 := by
 refine Na7 Na5 ?_
 intro f g h
 unfold Nol at h
 split at h
 ·rename_i e; simp only [Sj] at h; subst h; subst e
  exact Nao Nck NiD
 ·simp at h
theorem Nlv (args : List PV) (r : PV) (h : NkF args = some r) : ∃ fuel, evP cfgR3 fuel 51 args = some r := by
 unfold NkF at h
 split at h
 ·rename_i v
  split at h
  ·rename_i l hl
   split at h
   ·rename_i hc
    simp only [Sj] at h
    subst h
    exact ⟨8 * l.length + 40 + 1, Nbr (by kernel_rfl) (NaT hl) (fun _ => rfl) (NmU (cfg := cfgR3) (by kernel_rfl) (by kernel_rfl) hl hc (Nat.le_refl _))⟩
   ·simp at h
  ·simp at h
 ·simp at h
def NoH : FuncId → Option (List PV → Option PV) := fun f => if f = 51 then some NkF else if f = 50 then some Ncv else none
noncomputable def cfgR4 : Cfg := { fn := fun f => NbX f tblL, ext := NoH }
theorem Nlj {Gl : Gmap} : CfgOK Go.Proofs.Try.prog Gl cfgR4 := by
 refine Na7 Na5 ?_
 intro f g h
 unfold NoH at h
 split at h
 ·rename_i e; simp only [Sj] at h; subst h; subst e
  exact Nao Nk5 Nlv
 split at h
 ·rename_i e; simp only [Sj] at h; subst h; subst e
  exact Nao Nck Ngv
 ·simp at h
def NdK (l : List UInt8) (s j : Nat) : List UInt8 := l ++ (List.replicate (4 - j) 0 ++ (be4 s).drop (4 - j))
theorem NkB (l : List UInt8) (s j : Nat) (h : j ≤ 4) : (NdK l s j).length = l.length + 4 := by
 have h4 : (be4 s).length = 4 := rfl
 unfold NdK
 simp only [List.length_append, List.length_replicate, List.length_drop, h4]
 omega
theorem Nj4 (l : List UInt8) (s j : Nat) (h : j < 4) : (NdK l s j).set (l.length + (3 - j)) (UInt8.ofNat (s / 256 ^ j % 256)) = NdK l s (j + 1) := by
 have hm : ∀ x : Nat, UInt8.ofNat (x % 256) = UInt8.ofNat x := by
  intro x
  apply UInt8.toNat_inj.1
  rw [UInt8.toNat_ofNat', UInt8.toNat_ofNat']; omega
 unfold NdK
 rw [List.set_append_right _ _ (by omega), Nat.add_sub_cancel_left, hm]
 congr 1
 have hj : j = 0 ∨ j = 1 ∨ j = 2 ∨ j = 3 := by omega
 rcases hj with rfl | rfl | rfl | rfl
 ·show [0, 0, 0, UInt8.ofNat (s / 256 ^ 0)] = [0, 0, 0, UInt8.ofNat s]
  rw [Nat.pow_zero, Nat.div_one]
 ·show [0, 0, UInt8.ofNat (s / 256 ^ 1), UInt8.ofNat s] = [0, 0, UInt8.ofNat (s / 256), UInt8.ofNat s]
  rw [Nat.pow_one]
 ·rfl
 ·rfl
theorem NlS {cfg : Cfg} (hf : cfg.fn 38 = some m38) (hx1 : cfg.ext 51 = some NkF) (hx2 : cfg.ext 50 = some Ncv) {v : PV} {l : List UInt8} (hv : inL v = some l) (hl : l.length + 4 ≤ 140737488355328) {fuel : Nat} (hfu : 6 ≤ fuel) :
 ∃ r st', NaH cfg (fuel + 1) 38 [v] { sto := .leaf, cnt := 1 } = some (r, st') ∧ ∃ q, r = .rsl q 1 0 (NaE l).length ∧ st'.get q = some (.cells (Nab (NaE l)) false) := by
 refine NaD hf ?_
 unfold m38
 have hlv := Nbx hv
 have hlr : ∀ (a b c n : Nat), NeU (.rsl a b c n) = some (.i .i64 n) := fun _ _ _ _ => rfl
 have hcl := Njz l
 have hcc : ∀ (st : St) key, Nae (Naj cfg (NaH cfg fuel) 51) false st key [v] = some (.i .u32 ((crc l : Nat) : Int), st) := by
  intro st key
  refine Nap (by simp only [List.all_cons, NbB hv, List.all_nil, Bool.and_self]) ?_ rfl
  rw [Nac hx1]
  unfold NkF
  simp only [hv]
  rw [if_pos (by omega)]
 have hsb : NaE l = NdK l (crc l) 4 := by
  show l ++ be4 (crc l) = l ++ (List.replicate 0 0 ++ (be4 (crc l)).drop 0)
  rfl
 have hp0 : l ++ [0, 0, 0, 0] = NdK l (crc l) 0 := rfl
 rw [hsb]
 generalize crc l = s at *
 have hpl : ∀ j, j ≤ 4 → (NdK l s j).length = l.length + 4 := fun j hj => NkB l s j hj
 have hps : ∀ j, j < 4 → (NdK l s j).set (l.length + (3 - j)) (UInt8.ofNat (s / 256 ^ j % 256)) = NdK l s (j + 1) := fun j hj => Nj4 l s j hj
 have hca : ∀ (S : St) (key key2 : Nat), Nae (Naj cfg (NaH cfg fuel) 50) false (S.put key (some (.cells [.i .u8 (Int.ofNat 0), .i .u8 (Int.ofNat 0), .i .u8 (Int.ofNat 0), .i .u8 (Int.ofNat 0)] false))) key2 [v, .rsl key 1 0 4] = some (.rsl key2 1 0 (NdK l s 0).length, (S.put key (some (.cells [.i .u8 (Int.ofNat 0), .i .u8 (Int.ofNat 0), .i .u8 (Int.ofNat 0), .i .u8 (Int.ofNat 0)] false))).put key2 (some (.cells (Nab (NdK l s 0)) false))) := by
  intro S key key2
  rw [← hp0]
  exact NhA hx2 (v' := v) (w' := .fsl 4 (Nab [0, 0, 0, 0])) (NgA (NdJ hv) (NhR (m := [0, 0, 0, 0]) (St.get_putk S key _))) hv (Nbv [0, 0, 0, 0]) (by show l.length + 4 ≤ _; omega)
 have hp4 := hpl 0 (by omega)
 rw [hp4] at hca
 obtain ⟨P, hP⟩ : ∃ P, NdK l s = P := ⟨_, rfl⟩
 simp only [hP] at hpl hps hca ⊢
 refine Za (fun x => x.env.get 0 = v) ?_ ?_
 ·simp only [↓Z0, ↓Xp, ↓Xt, Xq, Xc, Nad, Naa, Nat.reduceAdd, Nat.reduceMul, Nat.reduceLT, Nat.reduceEqDiff, reduceIte, Xm, Nat.reduceLeDiff, Nag]
  (repeat' (first | exact True.intro | rfl | assumption | omega | apply And.intro | exact St.get_putk _ _ _ | refine ⟨_, rfl, ?_⟩))
 rintro ⟨env, ⟨sto, c⟩⟩ g0
 simp only at g0
 obtain ⟨q, hq⟩ : ∃ q, q = c + 16 := ⟨_, rfl⟩
 have hq' : c + 16 = q := hq.symm
 refine Za (fun x => x.env.get 0 = v ∧ x.env.get 3 = .rsl q 1 0 (l.length + 4) ∧ x.st.get q = some (.cells (Nab (P 0)) false)) ?_ ?_
 ·simp only [↓Z0, ↓Xp, ↓Xt, Xq, Xc, Nad, Naa, Nat.reduceAdd, Nat.reduceMul, Nat.reduceLT, Nat.reduceEqDiff, reduceIte, Xm, Nat.reduceLeDiff, g0, hca, hq']
  (repeat' (first | exact True.intro | rfl | assumption | omega | apply And.intro | exact St.get_putk _ _ _ | refine ⟨_, rfl, ?_⟩))
 clear g0
 rintro ⟨env, ⟨sto, c⟩⟩ ⟨g0, g3, kq⟩
 simp only at g0 g3 kq
 replace kq : ∀ n, St.get ⟨sto, n⟩ q = some (.cells (Nab (P 0)) false) := fun _ => kq
 clear hq hq'
 refine Za (fun x => x.env.get 0 = v ∧ x.env.get 3 = .rsl q 1 0 (l.length + 4) ∧ x.st.get q = some (.cells (Nab (P 0)) false) ∧ x.env.get 4 = .i .u32 (s : Int)) ?_ ?_
 ·simp only [↓Z0, ↓Xp, ↓Xt, Xq, Xc, Nad, Naa, Nat.reduceAdd, Nat.reduceMul, Nat.reduceLT, Nat.reduceEqDiff, reduceIte, Xm, Nat.reduceLeDiff, g0, g3, kq, hcc]
  (repeat' (first | exact True.intro | rfl | assumption | omega | apply And.intro | exact St.get_putk _ _ _ | refine ⟨_, rfl, ?_⟩))
 clear g0 g3 kq
 rintro ⟨env, ⟨sto, c⟩⟩ ⟨g0, g3, kq, g4⟩
 simp only at g0 g3 kq g4
 replace kq : ∀ n, St.get ⟨sto, n⟩ q = some (.cells (Nab (P 0)) false) := fun _ => kq
 refine Za (fun x => x.env.get 3 = .rsl q 1 0 (l.length + 4) ∧ x.st.get q = some (.cells (Nab (P 4)) false)) ?_ ?_
 ·have w1 : IntKind.i64.wrap (((l.length + 4 : Nat) : Int) - Int.ofNat 1) = ((l.length + 4 : Nat) : Int) - 1 := NaI _ ⟨by show _ ≤ ((l.length + 4 : Nat) : Int) - 1; omega, by show ((l.length + 4 : Nat) : Int) - 1 < _; omega⟩
  rw [Z0]
  simp only [↓Xp, ↓Xt, Xq, Xc, Nad, Naa, Nat.reduceAdd, Nat.reduceMul, Nat.reduceLT, Nat.reduceEqDiff, reduceIte, g0, g3, kq, g4, hlr, w1]
  refine Z9 (k := 4 - 0) (fun d x => ∃ j : Nat, j ≤ 4 ∧ d = 4 - j ∧ x.env.get 0 = v ∧ x.env.get 3 = .rsl q 1 0 (l.length + 4) ∧ x.env.get 4 = .i .u32 ((s / 256 ^ j : Nat) : Int) ∧ x.env.get 5 = .i .i64 (((l.length + 4 - j : Nat) : Int) - 1) ∧ x.st.get q = some (.cells (Nab (P j)) false)) ?_ ?_ (by omega)
  ·skip
   clear g0 g3 kq g4
   clear w1
   rintro d ⟨env, ⟨sto, c⟩⟩ ⟨j, hj, rfl, g0, g3, g4, g5, kq⟩
   simp only at g0 g3 g4 g5 kq
   have hlj := hpl j hj
   by_cases hlt : j < 4
   ·obtain ⟨i, hi⟩ : ∃ i, l.length + (3 - j) = i := ⟨_, rfl⟩
    have g5' : env.get 5 = .i .i64 (i : Int) := by rw [g5]; congr 1; omega
    clear g5
    have e1 : (i : Int) ≥ (l.length : Int) := by omega
    have wd : IntKind.i64.wrap ((i : Int) - Int.ofNat 1) = (i : Int) - 1 := NaI _ ⟨by show _ ≤ (i : Int) - 1; omega, by show (i : Int) - 1 < _; omega⟩
    have h256 : ¬ (Int.ofNat 256 = 0) := by decide
    have hs := hps j hlt
    rw [hi] at hs
    have hsj : s / 256 ^ j / 256 = s / 256 ^ (j + 1) := by rw [Nat.pow_succ, Nat.div_div_eq_div_mul]
    have hs32 : s / 256 ^ j < 4294967296 := Nat.lt_of_le_of_lt (Nat.div_le_self _ _) hcl
    generalize s / 256 ^ j = u at *
    obtain ⟨u2, hu2⟩ : ∃ u2, s / 256 ^ (j + 1) = u2 := ⟨_, rfl⟩
    rw [hu2] at hsj
    have hrem : (u : Int).tmod (Int.ofNat 256) = ((u % 256 : Nat) : Int) := rfl
    have hquo : (u : Int).tdiv (Int.ofNat 256) = (u2 : Int) := by rw [← hsj]; rfl
    have wq : IntKind.u32.wrap (u2 : Int) = (u2 : Int) := NdS _ ⟨by omega, by omega⟩
    have w8 := Nmf (u % 256)
    have h0i : 0 ≤ (i : Int) := by omega
    have hil : (i : Int) < ((l.length + 4 : Nat) : Int) := by omega
    have hsto := fun n => NcU (st := ⟨sto, n⟩) kq (i := i) (by omega) (UInt8.ofNat (u % 256))
    rw [hs] at hsto
    simp only [↓Z0, ↓Xp, ↓Xt, Xq, Xc, Nad, Naa, Nat.reduceAdd, Nat.reduceMul, Nat.reduceLT, Nat.reduceEqDiff, reduceIte, g0, g3, g4, g5', hlv, e1, h256, hrem, hquo, wq, w8, h0i, hil, hsto, wd]
    refine ⟨4 - (j + 1), by omega, j + 1, by omega, rfl, ?_⟩
    have e5 : (i : Int) - 1 = ((l.length + 4 - (j + 1) : Nat) : Int) - 1 := by omega
    simp only [e5, hu2]
    (repeat' (first | exact True.intro | rfl | assumption | omega | apply And.intro | exact St.get_putk _ _ _ | refine ⟨_, rfl, ?_⟩))
   ·have hj4 : j = 4 := by omega
    subst hj4
    have g5' : env.get 5 = .i .i64 ((l.length : Int) - 1) := g5
    have e1 : ¬ ((l.length : Int) - 1 ≥ (l.length : Int)) := by omega
    simp only [↓Z0, ↓Xp, ↓Xt, Xq, Xc, Nad, Naa, Nat.reduceAdd, Nat.reduceMul, Nat.reduceLT, Nat.reduceEqDiff, reduceIte, g0, g3, g4, g5', hlv, e1]
    (repeat' (first | exact True.intro | rfl | assumption | omega | apply And.intro))
  ·refine ⟨0, Nat.zero_le _, rfl, ?_⟩
   simp only [Env.get_put, Nat.reduceEqDiff, if_false, if_true, g0, g3, kq, g4, Nat.pow_zero, Nat.div_one, Nat.sub_zero]
   (repeat' (first | exact True.intro | rfl | assumption | omega | apply And.intro | exact St.get_putk _ _ _ | (simp only [Z0L_, NcW]; omega) | (simp (disch := omega) only [NkK, Nde, Nc6, kq]; done) | refine ⟨_, rfl, ?_⟩))
 rintro ⟨env, st1⟩ ⟨g3, kq⟩
 simp only at g3 kq
 simp only [↓Z0, ↓Xp, ↓Xt, Xq, Xc, Nad, Naa, Nat.reduceAdd, Nat.reduceMul, Nat.reduceLT, Nat.reduceEqDiff, reduceIte, g3]
 refine ⟨nofun, _, rfl, q, ?_, kq⟩
 simp only [NaX, ↓Z0, ↓Xp, ↓Xt, Xq, Xc, Nad, Naa, Nat.reduceAdd, Nat.reduceMul, Nat.reduceLT, Nat.reduceEqDiff, reduceIte, hpl 4 (Nat.le_refl _)]
def NeL : List PV → Option PV
 | [v] => match inL v with
   | some l => if l.length + 4 ≤ 140737488355328 then some (.osl 1 (NaE l).length (Nab (NaE l))) else none
   | none => none
 | _ => none
theorem NjU (args : List PV) (r : PV) (h : NeL args = some r) : ∃ fuel, evP cfgR4 fuel 38 args = some r := by
 unfold NeL at h
 split at h
 ·rename_i v
  split at h
  ·rename_i l hl
   split at h
   ·rename_i hc
    simp only [Sj] at h
    subst h
    obtain ⟨r, st', h1, q, h2, h3⟩ := NlS (cfg := cfgR4) (by kernel_rfl) (by kernel_rfl) (by kernel_rfl) hl hc (fuel := 6) (Nat.le_refl _)
    exact ⟨6 + 1, Nby (by kernel_rfl) (NaT hl) ⟨r, st', h1, by rw [h2]; exact NaK h3⟩⟩
   ·simp at h
  ·simp at h
 ·simp at h
end Go.Pe
set_option linter.unusedVariables false
set_option linter.unusedSimpArgs false
namespace Go.Pe
open Go Go.Am Go.RowKit

theorem Ni3 {l : List UInt8} {a k : Nat} (ha : a ≤ l.length) (hk1 : 1 ≤ k) (hk : k ≤ (l.drop a).length) (h : Ndb ((l.drop a).take k) = true) : Nbn l (a : Int) = (weighsN ((l.drop a).take k), ((a + k : Nat) : Int), 0) := by
 have hp := Nhn hk h
 unfold Nbn
 rw [if_neg (by omega), Int.toNat_natCast, hp]
 simp only []
 rw [if_neg (by omega), if_neg (by omega)]
 rfl
theorem NiV {r : List UInt8} {k : Nat} (hk : 10 < k ∨ r.length < k) (h : ∀ j, 1 ≤ j → j < k → Ndb (r.take j) = false) : (Nbb r).2 ≤ 0 := by
 rcases Int.lt_or_le 0 (Nbb r).2 with h0 | h0
 ·exfalso
  obtain ⟨j, _, h1, h2, h3, h4, _⟩ := Ng6 (r := r) (v := (Nbb r).1) (j := (Nbb r).2) rfl h0
  rw [h j h1 (by omega)] at h4
  cases h4
 ·exact h0
theorem Njg {l : List UInt8} {a : Nat} (ha : a ≤ l.length) (h : (Nbb (l.drop a)).2 ≤ 0) : Nbn l (a : Int) = (0, 0, if decide ((l.drop a).length + 1 ≤ 10) && Ndb (l.drop a ++ [1]) then 11 else 10) := by
 unfold Nbn
 rw [if_neg (by omega), Int.toNat_natCast, Nhb h]
 by_cases h0 : (Nbb (l.drop a)).2 = 0
 ·rw [if_pos h0, decide_eq_true h0]; rfl
 ·rw [if_neg h0, if_pos (by omega), decide_eq_false h0]; rfl
theorem Ndt (S : St) (key : Nat) (L : List UInt8) : cellsOf (S.put key (some (.cells (Nab L) false))) 1 (.rsl key 1 0 L.length) = some (L.length, Nab L) := NhW (St.get_putk _ _ _)
theorem NcS (st : St) (key : Nat) (L : List UInt8) : Nau st key (.osl 1 L.length (Nab L)) = some (.rsl key 1 0 L.length, st.put key (some (.cells (Nab L) false))) := rfl
theorem Nmd (st : St) (key : Nat) (k : IntKind) (n : Int) : Nau st key (.i k n) = some (.i k n, st) := rfl
theorem NhI (k : IntKind) (n : Int) : (PV.i k n).closedB = true := rfl
theorem Nlm {cfg : Cfg} (hf : cfg.fn 41 = some m41) (hx1 : cfg.ext 37 = some NdZ) (hx2 : cfg.ext 50 = some Ncv) (hx3 : cfg.ext 52 = some Nc0) {v : PV} {l : List UInt8} (hv : inL v = some l) (hl : l.length ≤ 140737488355327) {a : Int} {fuel : Nat} (hfu : 12 ≤ fuel) :
 ∃ r st', NaH cfg (fuel + 1) 41 [v, .i .i64 a] { sto := .leaf, cnt := 1 } = some (r, st') ∧ r = Ng9 (Nbn l a) := by
 refine NaD hf ?_
 unfold m41
 have hlv := Nbx hv
 by_cases h1 : a < 0
 ·have e1 : a < Int.ofNat 0 := h1
  have hg : Nbn l a = (0, 0, 2) := by unfold Nbn; rw [if_pos (.inl h1)]
  simp only [Nag, ↓Z0, ↓Xp, ↓Xt, Xq, Xc, Nad, Naa, Nat.reduceAdd, Nat.reduceMul, Nat.reduceLT, Nat.reduceEqDiff, reduceIte, e1]
  refine ⟨nofun, _, rfl, ?_⟩
  rw [hg]
  simp only [NaX, ↓Z0, ↓Xp, ↓Xt, Xq, Xc, Nad, Naa, Nat.reduceAdd, Nat.reduceMul, Nat.reduceLT, Nat.reduceEqDiff, reduceIte]
  rfl
 have e1 : ¬ a < Int.ofNat 0 := h1
 by_cases h2 : (l.length : Int) < a
 ·have e2 : a > (l.length : Int) := h2
  have hg : Nbn l a = (0, 0, 2) := by unfold Nbn; rw [if_pos (.inr h2)]
  simp only [Nag, ↓Z0, ↓Xp, ↓Xt, Xq, Xc, Nad, Naa, Nat.reduceAdd, Nat.reduceMul, Nat.reduceLT, Nat.reduceEqDiff, reduceIte, e1, e2, hlv]
  refine ⟨nofun, _, rfl, ?_⟩
  rw [hg]
  simp only [NaX, ↓Z0, ↓Xp, ↓Xt, Xq, Xc, Nad, Naa, Nat.reduceAdd, Nat.reduceMul, Nat.reduceLT, Nat.reduceEqDiff, reduceIte]
  rfl
 have e2 : ¬ a > (l.length : Int) := h2
 obtain ⟨at0, rfl⟩ : ∃ n : Nat, a = (n : Int) := ⟨a.toNat, by omega⟩
 have ha : at0 ≤ l.length := by omega
 obtain ⟨v2, hsl, hv2⟩ := Nfw hv ha
 have hfound := fun k h1 h2 h3 => Ni3 (k := k) ha h1 h2 h3
 have hnone := Njg (l := l) ha
 have hrl : (l.drop at0).length ≤ 140737488355327 := by rw [List.length_drop]; omega
 have hak : ∀ k, k ≤ (l.drop at0).length → at0 + k ≤ l.length := by intro k hk; rw [List.length_drop] at hk; omega
 generalize l.drop at0 = r at *
 generalize Nbn l (at0 : Int) = G at *
 have hlr := Nbx hv2
 have hlrr : ∀ (a b c n : Nat), NeU (.rsl a b c n) = some (.i .i64 n) := fun _ _ _ _ => rfl
 have hcw : ∀ (L : List UInt8) (w : PV) (st : St) key, inL w = some L → Nae (Naj cfg (NaH cfg fuel) 52) false st key [w] = some (.i .u64 (weighsN L), st) := by
  intro L w st key hw
  refine Nap (by simp only [List.all_cons, NbB hw, List.all_nil, Bool.and_self]) ?_ rfl
  rw [Nac hx3]
  unfold Nc0
  simp only [hw]
 have hqv : ∀ n : Nat, n < 18446744073709551616 → Naj cfg (NaH cfg fuel) 37 [.i .u64 (n : Int)] = some (.osl 1 (Nai n).length (Nab (Nai n))) := by
  intro n hn
  rw [Nac hx1]
  unfold NdZ
  simp only [Int.toNat_natCast]
  rw [if_pos ⟨by omega, by omega⟩]
 have hqw : ∀ L : List UInt8, Naj cfg (NaH cfg fuel) 52 [.fsl L.length (Nab L)] = some (.i .u64 (weighsN L)) := by
  intro L
  rw [Nac hx3]
  unfold Nc0
  simp only [Nbv]
 have hd1 : ∀ (st : St) (n : Int), NaW st [.i .u64 n] = some [.i .u64 n] := fun st n => Neq (Ne5 _ _ _)
 refine Za (fun x => x.env.get 0 = v ∧ x.env.get 1 = .i .i64 (at0 : Int)) ?_ ?_
 ·simp only [↓Z0, ↓Xp, ↓Xt, Xq, Xc, Nad, Naa, Nat.reduceAdd, Nat.reduceMul, Nat.reduceLT, Nat.reduceEqDiff, reduceIte, Xm, Nat.reduceLeDiff, Nag]
  (repeat' (first | exact True.intro | rfl | assumption | omega | apply And.intro | exact St.get_putk _ _ _ | refine ⟨_, rfl, ?_⟩))
 rintro ⟨env, ⟨sto, c⟩⟩ ⟨g0, g1⟩
 simp only at g0 g1
 refine Za (fun x => x.env.get 0 = v ∧ x.env.get 1 = .i .i64 (at0 : Int)) ?_ ?_
 ·simp only [↓Z0, ↓Xp, ↓Xt, Xq, Xc, Nad, Naa, Nat.reduceAdd, Nat.reduceMul, Nat.reduceLT, Nat.reduceEqDiff, reduceIte, Xm, Nat.reduceLeDiff, g0, g1, e1, e2, hlv]
  (repeat' (first | exact True.intro | rfl | assumption | omega | apply And.intro | exact St.get_putk _ _ _ | refine ⟨_, rfl, ?_⟩))
 clear g0 g1
 rintro ⟨env, ⟨sto, c⟩⟩ ⟨g0, g1⟩
 simp only at g0 g1
 refine Za (fun x => x.env.get 0 = v ∧ x.env.get 1 = .i .i64 (at0 : Int) ∧ x.env.get 7 = v2) ?_ ?_
 ·simp only [↓Z0, ↓Xp, ↓Xt, Xq, Xc, Nad, Naa, Nat.reduceAdd, Nat.reduceMul, Nat.reduceLT, Nat.reduceEqDiff, reduceIte, Xm, Nat.reduceLeDiff, g0, g1, hsl]
  (repeat' (first | exact True.intro | rfl | assumption | omega | apply And.intro | exact St.get_putk _ _ _ | refine ⟨_, rfl, ?_⟩))
 clear g0 g1
 rintro ⟨env, ⟨sto, c⟩⟩ ⟨g0, g1, g7⟩
 simp only at g0 g1 g7
 -- the search
 refine NfJ (fun x => x.env.get 7 = v2 ∧ (Nbb r).2 ≤ 0) ?_ ?_
 ·rw [Z0]
  simp only [↓Xp, ↓Xt, Xq, Xc, Nad, Naa, Nat.reduceAdd, Nat.reduceMul, Nat.reduceLT, Nat.reduceEqDiff, reduceIte, g0, g1, g7]
  refine Z9 (k := 11 - 1) (fun d x => ∃ k : Nat, 1 ≤ k ∧ k ≤ 11 ∧ d = 11 - k ∧ (∀ j, 1 ≤ j → j < k → Ndb (r.take j) = false) ∧ x.env.get 1 = .i .i64 (at0 : Int) ∧ x.env.get 7 = v2 ∧ x.env.get 8 = .i .i64 (k : Int)) ?_ ?_ (by omega)
  ·skip
   clear g0 g1 g7
   rintro d ⟨env, ⟨sto, c⟩⟩ ⟨k, hk1, hk11, rfl, hall, g1, g7, g8⟩
   simp only at g1 g7 g8
   by_cases hk : k ≤ 10 ∧ k ≤ r.length
   ·have e3 : (k : Int) ≤ Int.ofNat 10 := by show (k : Int) ≤ 10; omega
    have e4 : (k : Int) ≤ (r.length : Int) := by omega
    have hr0 : r ≠ [] := by intro e; rw [e] at hk; simp at hk; omega
    have hup := NjE hv2 hk.2 hr0
    have hin := Njs (l := r) hk.2
    have hcw1 := fun st key => hcw _ _ st key hin
    have hcin := fun st => NbM (st := st) hin
    obtain ⟨T, hT⟩ : ∃ T, r.take k = T := ⟨_, rfl⟩
    have hTl : T.length = k := by rw [← hT, List.length_take]; omega
    have hfk := hfound k hk1 hk.2
    rw [hT] at hup hcin hfk
    simp only [hT] at hcw1
    have hwl := Nca T
    have hqv1 := hqv _ hwl
    have hco := Na2 (Nai (weighsN T)).length (Nai (weighsN T))
    refine Za (fun x => x.env.get 1 = .i .i64 (at0 : Int) ∧ x.env.get 7 = v2 ∧ x.env.get 8 = .i .i64 (k : Int)) ?_ ?_
    ·simp only [↓Z0, ↓Xp, ↓Xt, Xq, Xc, Nad, Naa, Nat.reduceAdd, Nat.reduceMul, Nat.reduceLT, Nat.reduceEqDiff, reduceIte, Xm, Nat.reduceLeDiff, g1, g7, g8, e3, e4, hlr]
     (repeat' (first | exact True.intro | rfl | assumption | omega | apply And.intro | exact St.get_putk _ _ _ | refine ⟨_, rfl, ?_⟩))
    clear g1 g7 g8
    rintro ⟨env, ⟨sto, c⟩⟩ ⟨g1, g7, g8⟩
    simp only at g1 g7 g8
    rw [Z0]
    simp only [↓Xp, ↓Xt, Xq, Xc, Nad, Naa, Nat.reduceAdd, Nat.reduceMul, Nat.reduceLT, Nat.reduceEqDiff, reduceIte]
    refine Za (fun x => x.env.get 1 = .i .i64 (at0 : Int) ∧ x.env.get 7 = v2 ∧ x.env.get 8 = .i .i64 (k : Int) ∧ x.env.get 9 = .i .u64 (weighsN T : Int)) ?_ ?_
    ·simp only [↓Z0, ↓Xp, ↓Xt, Xq, Xc, Nad, Naa, Nat.reduceAdd, Nat.reduceMul, Nat.reduceLT, Nat.reduceEqDiff, reduceIte, Xm, Nat.reduceLeDiff, g1, g7, g8, hup, hcw1]
     (repeat' (first | exact True.intro | rfl | assumption | omega | apply And.intro | exact St.get_putk _ _ _ | refine ⟨_, rfl, ?_⟩))
    clear g1 g7 g8
    rintro ⟨env, ⟨sto, c⟩⟩ ⟨g1, g7, g8, g9⟩
    simp only at g1 g7 g8 g9
    by_cases hnum : Ndb T = true
    ·have e5 : (Nai (weighsN T) == T) = true := hnum
     have wk : IntKind.i64.wrap ((at0 : Int) + (k : Int)) = ((at0 + k : Nat) : Int) := by
      have := hak k hk.2
      rw [NaI _ ⟨by omega, by omega⟩]; rfl
     have hG := hfk hnum
     simp only [↓Z0, ↓Xp, ↓Xt, Xq, Xc, Nad, Naa, Nat.reduceAdd, Nat.reduceMul, Nat.reduceLT, Nat.reduceEqDiff, reduceIte, g1, g7, g8, g9, hd1, hqv1, hco, NcS, Ndt, Nbi, hup, hcin, e5, wk]
     refine ⟨nofun, _, rfl, ?_⟩
     rw [hG]
     simp only [NaX, ↓Z0, ↓Xp, ↓Xt, Xq, Xc, Nad, Naa, Nat.reduceAdd, Nat.reduceMul, Nat.reduceLT, Nat.reduceEqDiff, reduceIte]
     rfl
    ·have e5 : (Nai (weighsN T) == T) = false := by simpa [Ndb] using hnum
     have wk : IntKind.i64.wrap ((k : Int) + Int.ofNat 1) = ((k + 1 : Nat) : Int) := by
      rw [NaI _ ⟨by show _ ≤ (k : Int) + 1; omega, by show (k : Int) + 1 < _; omega⟩]; rfl
     simp only [↓Z0, ↓Xp, ↓Xt, Xq, Xc, Nad, Naa, Nat.reduceAdd, Nat.reduceMul, Nat.reduceLT, Nat.reduceEqDiff, reduceIte, g1, g7, g8, g9, hd1, hqv1, hco, NcS, Ndt, Nbi, hup, hcin, e5, wk]
     refine ⟨11 - (k + 1), by omega, k + 1, by omega, by omega, rfl, ?_, ?_⟩
     ·intro j hj1 hj2
      rcases Nat.lt_or_ge j k with h | h
      ·exact hall j hj1 h
      ·rw [show j = k by omega, hT]; simpa using hnum
     ·(repeat' (first | exact True.intro | rfl | assumption | omega | apply And.intro))
   ·skip
    have hno := NiV (r := r) (k := k) (by omega) hall
    by_cases h10 : k ≤ 10
    ·have e3 : (k : Int) ≤ Int.ofNat 10 := by show (k : Int) ≤ 10; omega
     have e4 : ¬ (k : Int) ≤ (r.length : Int) := by omega
     simp only [↓Z0, ↓Xp, ↓Xt, Xq, Xc, Nad, Naa, Nat.reduceAdd, Nat.reduceMul, Nat.reduceLT, Nat.reduceEqDiff, reduceIte, g1, g7, g8, e3, e4, hlr]
     (repeat' (first | exact True.intro | rfl | assumption | omega | apply And.intro))
    ·have e3 : ¬ (k : Int) ≤ Int.ofNat 10 := by show ¬ (k : Int) ≤ 10; omega
     simp only [↓Z0, ↓Xp, ↓Xt, Xq, Xc, Nad, Naa, Nat.reduceAdd, Nat.reduceMul, Nat.reduceLT, Nat.reduceEqDiff, reduceIte, g1, g7, g8, e3]
     (repeat' (first | exact True.intro | rfl | assumption | omega | apply And.intro))
  ·refine ⟨1, Nat.le_refl _, by omega, rfl, fun j h1 h2 => by omega, ?_⟩
   simp only [Env.get_put, Nat.reduceEqDiff, if_false, if_true, g0, g1, g7]
   (repeat' (first | exact True.intro | rfl | assumption | omega | apply And.intro))
 clear g0 g1 g7
 rintro ⟨env, ⟨sto, c⟩⟩ ⟨g7, hno⟩
 simp only at g7
 have hG := hnone hno
 obtain ⟨B, hB⟩ : ∃ B, r ++ [1] = B := ⟨_, rfl⟩
 have hBl : B.length = r.length + 1 := by rw [← hB]; simp
 have hca : ∀ (S : St) (key key2 : Nat), Nae (Naj cfg (NaH cfg fuel) 50) false (S.put key (some (.cells [.i .u8 (Int.ofNat 1)] false))) key2 [v2, .rsl key 1 0 1] = some (.rsl key2 1 0 B.length, (S.put key (some (.cells [.i .u8 (Int.ofNat 1)] false))).put key2 (some (.cells (Nab B) false))) := by
  intro S key key2
  rw [← hB]
  exact NhA hx2 (v' := v2) (w' := .fsl 1 (Nab [1])) (NgA (NdJ hv2) (NhR (m := [1]) (St.get_putk S key _))) hv2 (Nbv [1]) (by show r.length + 1 ≤ _; omega)
 obtain ⟨q, hq⟩ : ∃ q, q = c + 16 := ⟨_, rfl⟩
 have hq' : c + 16 = q := hq.symm
 rw [hB] at hG
 rw [← hBl] at hG
 refine Za (fun x => x.env.get 10 = .rsl q 1 0 B.length ∧ x.st.get q = some (.cells (Nab B) false) ∧ (q < x.st.cnt)) ?_ ?_
 ·simp only [↓Z0, ↓Xp, ↓Xt, Xq, Xc, Nad, Naa, Nat.reduceAdd, Nat.reduceMul, Nat.reduceLT, Nat.reduceEqDiff, reduceIte, Xm, Nat.reduceLeDiff, g7, hca, hq']
  (repeat' (first | exact True.intro | rfl | assumption | omega | apply And.intro | exact St.get_putk _ _ _ | refine ⟨_, rfl, ?_⟩))
 clear g7
 rintro ⟨env, ⟨sto, c⟩⟩ ⟨g10, kq, hqc⟩
 simp only at g10 kq hqc
 replace kq : ∀ n, St.get ⟨sto, n⟩ q = some (.cells (Nab B) false) := fun _ => kq
 have hwl := Nca B
 have hqv1 := hqv _ hwl
 have hco := Na2 (Nai (weighsN B)).length (Nai (weighsN B))
 have hdq : ∀ n, NaW ⟨sto, n⟩ [.rsl q 1 0 B.length] = some [.fsl B.length (Nab B)] := fun n => Neq (NhR (kq n))
 have hcq : ∀ (n key : Nat) (o : Option PObj), q < key → cellsOf ((⟨sto, n⟩ : St).put key o) 1 (.rsl q 1 0 B.length) = some (B.length, Nab B) := by
  intro n key o hk
  refine NhW (fz := false) ?_
  rw [St.get_put_ne (by omega)]
  exact kq n
 have hqj : ∀ j, q < c + j := fun j => by omega
 have hqw1 := hqw B
 by_cases h10 : B.length ≤ 10
 ·have e3 : (B.length : Int) ≤ Int.ofNat 10 := by show (B.length : Int) ≤ 10; omega
  rw [decide_eq_true h10, Bool.true_and] at hG
  by_cases hnum : Ndb B = true
  ·have e5 : (Nai (weighsN B) == B) = true := hnum
   rw [if_pos hnum] at hG
   simp only [↓Z0, ↓Xp, ↓Xt, Xq, Xc, Nad, Naa, Nat.reduceAdd, Nat.reduceMul, Nat.reduceLT, Nat.reduceEqDiff, reduceIte, g10, kq, hlrr, e3, hdq, hqw1, NhI, Nmd, hd1, hqv1, hco, NcS, Ndt, Nbi, hcq, hqj, e5]
   refine ⟨nofun, _, rfl, ?_⟩
   rw [hG]
   simp only [NaX, ↓Z0, ↓Xp, ↓Xt, Xq, Xc, Nad, Naa, Nat.reduceAdd, Nat.reduceMul, Nat.reduceLT, Nat.reduceEqDiff, reduceIte]
   rfl
  ·have e5 : (Nai (weighsN B) == B) = false := by simpa [Ndb] using hnum
   rw [if_neg hnum] at hG
   simp only [↓Z0, ↓Xp, ↓Xt, Xq, Xc, Nad, Naa, Nat.reduceAdd, Nat.reduceMul, Nat.reduceLT, Nat.reduceEqDiff, reduceIte, g10, kq, hlrr, e3, hdq, hqw1, NhI, Nmd, hd1, hqv1, hco, NcS, Ndt, Nbi, hcq, hqj, e5]
   refine ⟨nofun, _, rfl, ?_⟩
   rw [hG]
   simp only [NaX, ↓Z0, ↓Xp, ↓Xt, Xq, Xc, Nad, Naa, Nat.reduceAdd, Nat.reduceMul, Nat.reduceLT, Nat.reduceEqDiff, reduceIte]
   rfl
 ·have e3 : ¬ (B.length : Int) ≤ Int.ofNat 10 := by show ¬ (B.length : Int) ≤ 10; omega
  rw [decide_eq_false h10, Bool.false_and] at hG
  simp only [↓Z0, ↓Xp, ↓Xt, Xq, Xc, Nad, Naa, Nat.reduceAdd, Nat.reduceMul, Nat.reduceLT, Nat.reduceEqDiff, reduceIte, g10, kq, hlrr, e3]
  refine ⟨nofun, _, rfl, ?_⟩
  rw [hG]
  simp only [NaX, ↓Z0, ↓Xp, ↓Xt, Xq, Xc, Nad, Naa, Nat.reduceAdd, Nat.reduceMul, Nat.reduceLT, Nat.reduceEqDiff, reduceIte]
  rfl
def NdT : List PV → Option PV
 | [v, .i .i64 a] => match inL v with
   | some l => if l.length ≤ 140737488355327 then some (Ng9 (Nbn l a)) else none
   | none => none
 | _ => none
theorem Nhx (st : St) (p : Nat × Int × Int) : Nav st (Ng9 p) = some (Ng9 p) := Nak (vs := [.i .u64 (p.1 : Int), .i .i64 p.2.1, .i .i64 p.2.2]) rfl
theorem Ngz (st : St) (p : Int × Int × Int) : Nav st (NdY p) = some (NdY p) := Nak (vs := [.i .i64 p.1, .i .i64 p.2.1, .i .i64 p.2.2]) rfl
theorem Ngp (args : List PV) (r : PV) (h : NdT args = some r) : ∃ fuel, evP cfgR1 fuel 41 args = some r := by
 unfold NdT at h
 split at h
 ·rename_i v a
  split at h
  ·rename_i l hl
   split at h
   ·rename_i hc
    simp only [Sj] at h
    subst h
    exact ⟨12 + 1, Nbr (by kernel_rfl) (NaT hl) (fun st => Nhx st _) (Nlm (cfg := cfgR1) (by kernel_rfl) (by kernel_rfl) (by kernel_rfl) (by kernel_rfl) hl hc (Nat.le_refl _))⟩
   ·simp at h
  ·simp at h
 ·simp at h
def NoK : FuncId → Option (List PV → Option PV) := fun f => if f = 41 then some NdT else none
noncomputable def cfgR5 : Cfg := { fn := fun f => NbX f tblL, ext := NoK }
theorem NlN {Gl : Gmap} : CfgOK Go.Proofs.Try.prog Gl cfgR5 := by
 refine Na7 Na5 ?_
 intro f g h
 unfold NoK at h
 split at h
 ·rename_i e; simp only [Sj] at h; subst h; subst e
  exact Nao Nft Ngp
 ·simp at h
theorem NlR {l : List UInt8} {a : Int} (h : (Nbn l a).2.2 ≠ 0) : (Nbn l a).1 = 0 ∧ (Nbn l a).2.1 = 0 := by
 unfold Nbn at h ⊢
 split
 ·exact ⟨rfl, rfl⟩
 split
 ·exact ⟨rfl, rfl⟩
 split
 ·exact ⟨rfl, rfl⟩
 ·rename_i h1 h2 h3
  rw [if_neg h1, if_neg h2, if_neg h3] at h
  exact absurd rfl h
theorem Nc9 (l : List UInt8) (a : Int) : (Nbn l a).1 < 18446744073709551616 := by
 unfold Nbn
 split
 ·decide
 split
 ·decide
 split
 ·decide
 ·exact Nih _
def Ngk : List PV → Option PV
 | [v, .i .i64 a] => match inL v with
   | some l => if l.length ≤ 140737488355327 then some (NdY (Ncj l a)) else none
   | none => none
 | _ => none
theorem Nkk (args : List PV) (r : PV) (h : Ngk args = some r) : ∃ fuel, evP cfgR5 fuel 40 args = some r := by
 unfold Ngk at h
 split at h
 ·rename_i v a
  split at h
  ·rename_i l hl
   split at h
   ·rename_i hc
    simp only [Sj] at h
    subst h
    refine ⟨0 + 1, Nbr (by kernel_rfl) (NaT hl) (fun st => Ngz st _) (NaD (by kernel_rfl : cfgR5.fn 40 = some m40) ?_)⟩
    unfold m40
    have hlb := hc
    have hcu : ∀ (st : St) key, Nae (Naj cfgR5 (NaH cfgR5 0) 41) false st key [v, .i .i64 a] = some (.tup [.i .u64 ((Nbn l a).1 : Int), .i .i64 (Nbn l a).2.1, .i .i64 (Nbn l a).2.2], st) := by
     intro st key
     refine Nap (by simp only [List.all_cons, NbB hl, List.all_nil, Bool.and_self]; rfl) ?_ rfl
     rw [Nac (by kernel_rfl : cfgR5.ext 41 = some NdT)]
     unfold NdT
     simp only [hl]
     rw [if_pos hlb]; rfl
    have hbad := NlR (l := l) (a := a)
    have hlt := Nc9 l a
    have hgi : Ncj l a = if (Nbn l a).2.2 = 0 then (NcB (Nbn l a).1, (Nbn l a).2.1, 0) else (0, 0, (Nbn l a).2.2) := rfl
    rw [hgi]
    clear hgi
    generalize Nbn l a = G at *
    obtain ⟨n, nx, e⟩ := G
    simp only [] at hcu hbad hlt ⊢
    have h2 : ¬ (Int.ofNat 2 = 0) := by decide
    have hrem : (n : Int).tmod (Int.ofNat 2) = ((n % 2 : Nat) : Int) := rfl
    have hquo : (n : Int).tdiv (Int.ofNat 2) = ((n / 2 : Nat) : Int) := rfl
    have wq : IntKind.u64.wrap ((n / 2 : Nat) : Int) = ((n / 2 : Nat) : Int) := NbU _ ⟨by omega, by omega⟩
    have wi : IntKind.i64.wrap ((n / 2 : Nat) : Int) = ((n / 2 : Nat) : Int) := NaI _ ⟨by omega, by omega⟩
    by_cases he : e = 0
    ·subst he
     have e0 : ((0 : Int) == Int.ofNat 0) = true := rfl
     rw [if_pos rfl]
     by_cases hod : n % 2 = 1
     ·have e1 : (((n % 2 : Nat) : Int) == Int.ofNat 1) = true := by rw [hod]; rfl
      have ws : IntKind.i64.wrap (Int.negSucc 0 - ((n / 2 : Nat) : Int)) = NcB n := by
       unfold NcB
       rw [if_neg (by omega), NaI _ ⟨by show _ ≤ (-1 : Int) - _; omega, by show (-1 : Int) - _ < _; omega⟩]
       show (-1 : Int) - _ = _
       omega
      simp only [Nag, ↓Z0, ↓Xp, ↓Xt, Xq, Xc, Nad, Naa, Nat.reduceAdd, Nat.reduceMul, Nat.reduceLT, Nat.reduceEqDiff, reduceIte, List.getElem?_cons_zero, List.getElem?_cons_succ, hcu, e0, h2, hrem, hquo, wq, wi, e1, ws]
      refine ⟨nofun, _, rfl, ?_⟩
      simp only [NaX, NdY, ↓Z0, ↓Xp, ↓Xt, Xq, Xc, Nad, Naa, Nat.reduceAdd, Nat.reduceMul, Nat.reduceLT, Nat.reduceEqDiff, reduceIte]
      rfl
     ·have e1 : (((n % 2 : Nat) : Int) == Int.ofNat 1) = false := by rw [show n % 2 = 0 by omega]; rfl
      have ho : NcB n = ((n / 2 : Nat) : Int) := by unfold NcB; rw [if_pos (by omega)]
      simp only [Nag, ↓Z0, ↓Xp, ↓Xt, Xq, Xc, Nad, Naa, Nat.reduceAdd, Nat.reduceMul, Nat.reduceLT, Nat.reduceEqDiff, reduceIte, List.getElem?_cons_zero, List.getElem?_cons_succ, hcu, e0, h2, hrem, hquo, wq, wi, e1]
      refine ⟨nofun, _, rfl, ?_⟩
      simp only [NaX, NdY, ho, ↓Z0, ↓Xp, ↓Xt, Xq, Xc, Nad, Naa, Nat.reduceAdd, Nat.reduceMul, Nat.reduceLT, Nat.reduceEqDiff, reduceIte]
    ·have e0 : (e == Int.ofNat 0) = false := by simpa using he
     rw [if_neg he]
     obtain ⟨hb1, hb2⟩ := hbad he
     subst hb1
     subst hb2
     simp only [Nag, ↓Z0, ↓Xp, ↓Xt, Xq, Xc, Nad, Naa, Nat.reduceAdd, Nat.reduceMul, Nat.reduceLT, Nat.reduceEqDiff, reduceIte, List.getElem?_cons_zero, List.getElem?_cons_succ, hcu, e0, h2, hquo, wq, wi]
     refine ⟨nofun, _, rfl, ?_⟩
     simp only [NaX, NdY, ↓Z0, ↓Xp, ↓Xt, Xq, Xc, Nad, Naa, Nat.reduceAdd, Nat.reduceMul, Nat.reduceLT, Nat.reduceEqDiff, reduceIte]
     rfl
   ·simp at h
  ·simp at h
 ·simp at h
end Go.Pe
