/-
 References of the layers 1 and 3, by the interpreter of plain data. No condition.
-/
import Derived.Test.YtogdkhejfkbnmaaEvtE
import Derived.Test.YtogdkhejfkbnmaaRefM
set_option linter.unusedVariables false
set_option linter.unusedSimpArgs false
set_option maxHeartbeats 8000000
set_option maxRecDepth 100000
namespace Go.Pe
open Go Go.Am Go.RowKit

theorem NoD (n : Nat) : IntKind.u8.wrap (n : Int) = ((UInt8.ofNat n).toNat : Int) := by
 rw [IntKind.wrap_u8, UInt8.toNat_ofNat']
 omega
theorem NiK (c : UInt8) : ([.i .u8 (c.toNat : Int)] : List PV) = Nab [c] := rfl
theorem No5 {sto : Trie PObj} {q m key key2 : Nat} {L : List UInt8} {c : UInt8} (hk : St.get ⟨sto, m⟩ q = some (.cells (Nab L) false)) (hq : q ≠ key) (hl : L.length + 1 ≤ maxBytes) :
 NaJ ((⟨sto, m⟩ : St).put key (some (.cells [.i .u8 (c.toNat : Int)] false))) key2 1 1 1 [.i .u8 (c.toNat : Int)] (.rsl q 1 0 L.length) = some (.rsl key2 1 0 (L ++ [c]).length, (((⟨sto, m⟩ : St).put key (some (.cells [.i .u8 (c.toNat : Int)] false))).put q none).put key2 (some (.cells (Nab (L ++ [c])) false))) := by
 refine Nr4 (news := [c]) (l := L) ?_ hl
 rw [St.get_put_ne (fun e => hq e.symm)]
 exact hk
theorem Nla (S : St) (key : Nat) (v : PV) : cellsOf (S.put key (some (.cells [v] false))) 1 (.rsl key 1 0 1) = some (1, [v]) := by
 have h := St.get_putk S key (some (.cells [v] false))
 unfold cellsOf
 simp only [h]
 rfl
theorem Np7 {m k : Nat} (h1 : 128 ≤ m) (h2 : m * 128 ^ k < 18446744073709551616) : k ≤ 8 := by
 rcases Nat.lt_or_ge 8 k with h | h
 ·exfalso
  have h3 : (128 : Nat) ^ 9 ≤ 128 ^ k := Nat.pow_le_pow_right (by decide) h
  have h4 : (128 : Nat) ^ 9 = 9223372036854775808 := by decide
  have h5 : 128 * 128 ^ k ≤ m * 128 ^ k := Nat.mul_le_mul_right _ h1
  omega
 ·exact h
theorem Nkj {cfg : Cfg} (hf : cfg.fn 35 = some m35) {fuel : Nat} (hfu : 12 ≤ fuel) {N : Nat} (hN : N < 18446744073709551616) :
 ∃ r st', NaB cfg (fuel + 1) 35 [.i .u64 N] { sto := .leaf, cnt := 1 } = some (r, st') ∧ ∃ q, r = .rsl q 1 0 (Nah N).length ∧ st'.get q = some (.cells (Nab (Nah N)) false) := by
 refine Naw hf ?_
 unfold m35
 have h128 : ¬ (Int.ofNat 128 = 0) := by decide
 have hrem : ∀ m : Nat, (m : Int).tmod (Int.ofNat 128) = ((m % 128 : Nat) : Int) := fun _ => rfl
 have hquo : ∀ m : Nat, (m : Int).tdiv (Int.ofNat 128) = ((m / 128 : Nat) : Int) := fun _ => rfl
 have hlr : ∀ (a b c n : Nat), NfG (.rsl a b c n) = some (.i .i64 n) := fun _ _ _ _ => rfl
 have w8 : ∀ m : Nat, IntKind.u8.wrap ((m % 128 : Nat) : Int) = ((UInt8.ofNat (m % 128)).toNat : Int) := fun m => NoD _
 have wq : ∀ m : Nat, m < 18446744073709551616 → IntKind.u64.wrap ((m / 128 : Nat) : Int) = ((m / 128 : Nat) : Int) := fun m hm => Nbm _ ⟨by omega, by omega⟩
 have wN := wq N hN
 refine Za (fun x => x.env.get 0 = .i .u64 N) ?_ ?_
 ·simp only [↓Z0, ↓Xp, ↓Xt, Xq, Xc, Nac, Naa, Nat.reduceAdd, Nat.reduceMul, Nat.reduceLT, Nat.reduceEqDiff, reduceIte, Xm, Nat.reduceLeDiff, Nae]
  (repeat' (first | exact True.intro | rfl | assumption | omega | apply And.intro | exact St.get_putk _ _ _ | refine ⟨_, rfl, ?_⟩))
 rintro ⟨env, ⟨sto, c⟩⟩ g0
 simp only at g0
 refine Za (fun x => x.env.get 0 = .i .u64 N ∧ (∃ q, x.env.get 3 = .rsl q 1 0 ([UInt8.ofNat (N % 128)] : List UInt8).length ∧ x.st.get q = some (.cells [.i .u8 ((UInt8.ofNat (N % 128)).toNat : Int)] false) ∧ q < x.st.cnt)) ?_ ?_
 ·simp only [↓Z0, ↓Xp, ↓Xt, Xq, Xc, Nac, Naa, Nat.reduceAdd, Nat.reduceMul, Nat.reduceLT, Nat.reduceEqDiff, reduceIte, Xm, Nat.reduceLeDiff, g0, h128, hrem, w8]
  (repeat' (first | exact True.intro | rfl | assumption | omega | apply And.intro | exact St.get_putk _ _ _ | refine ⟨_, rfl, ?_⟩))
 clear g0
 rintro ⟨env, ⟨sto, c⟩⟩ ⟨g0, h3⟩
 simp only at g0 h3
 have hh3 := h3
 obtain ⟨q0, g3, k3, hq0⟩ := hh3
 refine Za (fun x => ∃ q, x.env.get 3 = .rsl q 1 0 (Nah N).length ∧ x.st.get q = some (.cells (Nab (Nah N)) false)) ?_ ?_
 ·rw [Z0]
  simp only [↓Xp, ↓Xt, Xq, Xc, Nac, Naa, Nat.reduceAdd, Nat.reduceMul, Nat.reduceLT, Nat.reduceEqDiff, reduceIte, g0, h128, hquo, wN]
  refine Z9 (k := 10 - 0) (fun d x => ∃ (k m q : Nat) (pre : List UInt8), k ≤ 9 ∧ d = 10 - k ∧ m < 18446744073709551616 ∧ pre.length = k ∧ Nah N = pre ++ varF (9 - k) m ∧ m * 128 ^ k < 18446744073709551616 ∧ x.env.get 3 = .rsl q 1 0 (pre ++ [UInt8.ofNat (m % 128)]).length ∧ x.env.get 4 = .i .u64 ((m / 128 : Nat) : Int) ∧ x.st.get q = some (.cells (Nab (pre ++ [UInt8.ofNat (m % 128)])) false) ∧ q < x.st.cnt) ?_ ?_ (by omega)
  ·clear g0 h3 g3 k3 hq0
   rintro d ⟨env, ⟨sto, c⟩⟩ ⟨k, m, q, pre, hk, rfl, hm, hpl, hvar, hpow, g3, g4, kq, hq⟩
   simp only at g3 g4 kq hq
   replace kq : ∀ n, St.get ⟨sto, n⟩ q = some (.cells (Nab (pre ++ [UInt8.ofNat (m % 128)])) false) := fun _ => kq
   have wm := wq m hm
   by_cases hsm : m < 128
   ·have e0 : ¬ (((m / 128 : Nat) : Int) > Int.ofNat 0) := by show ¬ (((m / 128 : Nat) : Int) > 0); omega
    have hfin : Nah N = pre ++ [UInt8.ofNat (m % 128)] := by
     rw [hvar, show m % 128 = m by omega]; congr 1
     cases 9 - k with
     | zero => rfl
     | succ f => simp [varF, hsm]
    simp only [↓Z0, ↓Xp, ↓Xt, Xq, Xc, Nac, Naa, Nat.reduceAdd, Nat.reduceMul, Nat.reduceLT, Nat.reduceEqDiff, reduceIte, g3, g4, kq, e0]
    refine ⟨q, ?_, ?_⟩
    ·rw [hfin]
    ·rw [hfin]; exact kq _
   ·have e0 : ((m / 128 : Nat) : Int) > Int.ofNat 0 := by show ((m / 128 : Nat) : Int) > 0; omega
    have hk8 := Np7 (by omega) hpow
    obtain ⟨L, hL⟩ : ∃ L, pre ++ [UInt8.ofNat (m % 128)] = L := ⟨_, rfl⟩
    have hLl : L.length = k + 1 := by rw [← hL]; simp [hpl]
    have hgd : L.getD k 0 = UInt8.ofNat (m % 128) := by rw [← hL, ← hpl]; simp [List.getD_eq_getElem?_getD]
    have hset : L.set k (UInt8.ofNat (m % 128 + 128)) = pre ++ [UInt8.ofNat (m % 128 + 128)] := by
     rw [← hL, ← hpl, List.set_append_right _ _ (Nat.le_refl _), Nat.sub_self]; rfl
    rw [hL] at g3
    simp only [hL] at kq
    rw [hLl] at g3
    have wk : IntKind.i64.wrap (((k + 1 : Nat) : Int) - Int.ofNat 1) = (k : Int) := by
     rw [NaK _ ⟨by show _ ≤ ((k + 1 : Nat) : Int) - 1; omega, by show ((k + 1 : Nat) : Int) - 1 < _; omega⟩]
     show ((k + 1 : Nat) : Int) - 1 = _
     omega
    have h0k : 0 ≤ (k : Int) := by omega
    have hk1 : (k : Int) < ((k + 1 : Nat) : Int) := by omega
    refine Za (fun x => x.env.get 3 = .rsl q 1 0 (k + 1) ∧ x.env.get 4 = .i .u64 ((m / 128 : Nat) : Int) ∧ x.st.get q = some (.cells (Nab L) false) ∧ (q < x.st.cnt)) ?_ ?_
    ·simp only [↓Z0, ↓Xp, ↓Xt, Xq, Xc, Nac, Naa, Nat.reduceAdd, Nat.reduceMul, Nat.reduceLT, Nat.reduceEqDiff, reduceIte, Xm, Nat.reduceLeDiff, g3, g4, kq, e0]
     (repeat' (first | exact True.intro | rfl | assumption | omega | apply And.intro | exact St.get_putk _ _ _ | refine ⟨_, rfl, ?_⟩))
    clear g3 g4 kq hq
    rintro ⟨env, ⟨sto, c⟩⟩ ⟨g3, g4, kq, hq⟩
    simp only at g3 g4 kq hq
    replace kq : ∀ n, St.get ⟨sto, n⟩ q = some (.cells (Nab L) false) := fun _ => kq
    have hld := fun n => NdW (st := ⟨sto, n⟩) (kq n) (i := k) (by omega)
    rw [hgd] at hld
    have w2 : IntKind.u8.wrap (((UInt8.ofNat (m % 128)).toNat : Int) + Int.ofNat 128) = ((UInt8.ofNat (m % 128 + 128)).toNat : Int) := by
     rw [NaS (by omega), NaS (by omega)]
     rw [Nmm _ ⟨by show 0 ≤ ((m % 128 : Nat) : Int) + 128; omega, by show ((m % 128 : Nat) : Int) + 128 < 256; omega⟩]
     rfl
    have hsto := fun n => Nc9 (st := ⟨sto, n⟩) (kq n) (i := k) (by omega) (UInt8.ofNat (m % 128 + 128))
    rw [hset] at hsto
    rw [Z0]
    simp only [↓Xp, ↓Xt, Xq, Xc, Nac, Naa, Nat.reduceAdd, Nat.reduceMul, Nat.reduceLT, Nat.reduceEqDiff, reduceIte]
    refine Za (fun x => x.env.get 3 = .rsl q 1 0 (k + 1) ∧ x.env.get 4 = .i .u64 ((m / 128 : Nat) : Int) ∧ x.st.get q = some (.cells (Nab (pre ++ [UInt8.ofNat (m % 128 + 128)])) false) ∧ (q < x.st.cnt)) ?_ ?_
    ·simp only [↓Z0, ↓Xp, ↓Xt, Xq, Xc, Nac, Naa, Nat.reduceAdd, Nat.reduceMul, Nat.reduceLT, Nat.reduceEqDiff, reduceIte, List.getElem?_cons_zero, List.getElem?_cons_succ, Z0L_, g3, g4, kq, hlr, wk, h0k, hk1, hld, w2, hsto]
     (repeat' (first | exact True.intro | rfl | assumption | omega | apply And.intro | exact St.get_putk _ _ _ | refine ⟨_, rfl, ?_⟩))
    clear g3 g4 kq hq
    rintro ⟨env, ⟨sto, c⟩⟩ ⟨g3, g4, kq, hq⟩
    simp only at g3 g4 kq hq
    replace kq : ∀ n, St.get ⟨sto, n⟩ q = some (.cells (Nab (pre ++ [UInt8.ofNat (m % 128 + 128)])) false) := fun _ => kq
    clear hld hsto
    have hpl1 : (pre ++ [UInt8.ofNat (m % 128 + 128)]).length = k + 1 := by simp [hpl]
    have hvar2 : Nah N = (pre ++ [UInt8.ofNat (m % 128 + 128)]) ++ varF (9 - (k + 1)) (m / 128) := by
     rw [hvar, show 9 - k = (9 - (k + 1)) + 1 by omega]
     conv => lhs; unfold varF
     rw [if_neg hsm, List.append_assoc]; rfl
    have hpow2 : m / 128 * 128 ^ (k + 1) < 18446744073709551616 := by
     rw [Nat.pow_succ, Nat.mul_comm (128 ^ k) 128, ← Nat.mul_assoc]
     exact Nat.lt_of_le_of_lt (Nat.mul_le_mul_right _ (Nat.div_mul_le_self m 128)) hpow
    obtain ⟨P, hP⟩ : ∃ L, pre ++ [UInt8.ofNat (m % 128 + 128)] = L := ⟨_, rfl⟩
    rw [hP] at hpl1 hvar2
    simp only [hP] at kq
    obtain ⟨m2, hm2⟩ : ∃ m2, m / 128 = m2 := ⟨_, rfl⟩
    rw [hm2] at hvar2 hpow2 g4
    have hm2' : m2 < 18446744073709551616 := by omega
    have wm2 := wq m2 hm2'
    have w82 := w8 m2
    have happ : ∀ (m key key2 : Nat), q < key → NaJ ((⟨sto, m⟩ : St).put key (some (.cells [.i .u8 ((UInt8.ofNat (m2 % 128)).toNat : Int)] false))) key2 1 1 1 [.i .u8 ((UInt8.ofNat (m2 % 128)).toNat : Int)] (.rsl q 1 0 (k + 1)) = some (.rsl key2 1 0 (P ++ [UInt8.ofNat (m2 % 128)]).length, (((⟨sto, m⟩ : St).put key (some (.cells [.i .u8 ((UInt8.ofNat (m2 % 128)).toNat : Int)] false))).put q none).put key2 (some (.cells (Nab (P ++ [UInt8.ofNat (m2 % 128)])) false))) := by
     intro m key key2 hk
     rw [← hpl1]
     exact No5 (kq m) (by omega) (by rw [hpl1]; unfold maxBytes; omega)
    have hqc : ∀ j, q < c + j := fun j => by omega
    simp only [↓Z0, ↓Xp, ↓Xt, Xq, Xc, Nac, Naa, Nat.reduceAdd, Nat.reduceMul, Nat.reduceLT, Nat.reduceEqDiff, reduceIte, Xm, Nat.reduceLeDiff, g3, g4, h128, hrem, hquo, w82, wm2, Nla, happ, hqc]
    refine ⟨10 - (k + 1), by omega, k + 1, m2, ?_⟩
    refine ⟨c + 40, P, by omega, rfl, hm2', hpl1, hvar2, hpow2, ?_⟩
    (repeat' (first | exact True.intro | rfl | assumption | omega | apply And.intro | exact St.get_putk _ _ _ | (simp only [Z0L_, Nb2]; omega) | (simp (disch := omega) only [NkR, Z0I_, Nh3, kq]; done) | refine ⟨_, rfl, ?_⟩))
  ·refine ⟨0, N, q0, [], by omega, rfl, hN, rfl, rfl, by simpa using hN, ?_⟩
   simp only [Env.get_put, Nat.reduceEqDiff, if_false, if_true, g3]
   (repeat' (first | exact True.intro | rfl | assumption | omega | exact k3 | apply And.intro))
 rintro ⟨env, st1⟩ ⟨q, g3, kq⟩
 simp only at g3 kq
 simp only [↓Z0, ↓Xp, ↓Xt, Xq, Xc, Nac, Naa, Nat.reduceAdd, Nat.reduceMul, Nat.reduceLT, Nat.reduceEqDiff, reduceIte, g3]
 refine ⟨nofun, _, rfl, q, ?_, kq⟩
 simp only [Naz, ↓Z0, ↓Xp, ↓Xt, Xq, Xc, Nac, Naa, Nat.reduceAdd, Nat.reduceMul, Nat.reduceLT, Nat.reduceEqDiff, reduceIte]
def Nd5 : List PV → Option PV
 | [.i .u64 n] => if 0 ≤ n ∧ n < 18446744073709551616 then some (.osl 1 (Nah n.toNat).length (Nab (Nah n.toNat))) else none
 | _ => none
theorem Ndo (args : List PV) (r : PV) (h : Nd5 args = some r) : ∃ fuel, evP cfgE0 fuel 35 args = some r := by
 unfold Nd5 at h
 split at h
 ·rename_i n
  split at h
  ·rename_i hc
   simp only [Sj] at h
   subst h
   obtain ⟨r, st', h1, q, h2, h3⟩ := Nkj (cfg := cfgE0) (by kernel_rfl) (fuel := 12) (by omega) (N := n.toNat) (by omega)
   rw [show ((n.toNat : Nat) : Int) = n by omega] at h1
   exact ⟨12 + 1, Na2 rfl rfl ⟨r, st', h1, by rw [h2]; exact NaX h3⟩⟩
  ·simp at h
 ·simp at h
theorem Nja {st : St} {k off : Nat} {L a : List UInt8} (hk : st.get k = some (.cells (Nab L) false)) (h : off + a.length ≤ L.length) :
 Nc3 st 1 a.length (Nab a) (.rsl k 1 off (L.length - off)) = some (.i .i64 (a.length : Int), st.put k (some (.cells (Nab (L.take off ++ a ++ L.drop (off + a.length))) false))) := by
 have hm : Nat.min a.length (L.length - off) = a.length := Nat.min_eq_left (by omega)
 have ho := Nbo a
 have ha : ((Nab L).take off ++ (Nab a).take a.length ++ (Nab L).drop (off + a.length)) = Nab (L.take off ++ a ++ L.drop (off + a.length)) := by
  rw [Na0, NbE, Na0, List.take_length, Na1, Na1]
 unfold Nc3
 simp only [hk, hm, Nat.mul_one, Nai, ho, ha]
 rw [if_pos ⟨trivial, by omega, trivial⟩]
theorem Nrc (n : Nat) : List.flatten (List.replicate n ([.i .u8 (.ofNat 0)] : List PV)) = Nab (List.replicate n 0) := by
 induction n with
 | zero => rfl
 | succ n ih =>
   rw [List.replicate_succ, List.replicate_succ, List.flatten_cons, ih]; rfl
theorem NnS {cfg : Cfg} (hf : cfg.fn 39 = some m39) {fuel : Nat} {v w : PV} {a b : List UInt8} (hv : inL v = some a) (hw : inL w = some b) (hl : a.length + b.length ≤ 140737488355328) :
 ∃ r st', NaB cfg (fuel + 1) 39 [v, w] { sto := .leaf, cnt := 1 } = some (r, st') ∧ ∃ q, r = .rsl q 1 0 (a ++ b).length ∧ st'.get q = some (.cells (Nab (a ++ b)) false) := by
 refine Naw hf ?_
 unfold m39
 have hla := Nba hv
 have hlb := Nba hw
 have hca := fun st => NbA (st := st) hv
 have hcb := fun st => NbA (st := st) hw
 obtain ⟨nn, hn⟩ : ∃ nn, a.length + b.length = nn := ⟨_, rfl⟩
 have wn : IntKind.i64.wrap ((a.length : Int) + (b.length : Int)) = (nn : Int) := by
  rw [NaK _ ⟨by omega, by omega⟩]; omega
 have h0n : 0 ≤ (nn : Int) := by omega
 have hnm : nn ≤ maxBytes := by unfold maxBytes; omega
 have hz := Nrc nn
 have h01 : (0 : Nat) < 1 := by decide
 refine Za (fun x => x.env.get 0 = v ∧ x.env.get 1 = w) ?_ ?_
 ·simp only [↓Z0, ↓Xp, ↓Xt, Xq, Xc, Nac, Naa, Nat.reduceAdd, Nat.reduceMul, Nat.reduceLT, Nat.reduceEqDiff, reduceIte, Xm, Nat.reduceLeDiff, Nae]
  (repeat' (first | exact True.intro | rfl | assumption | omega | apply And.intro | exact St.get_putk _ _ _ | refine ⟨_, rfl, ?_⟩))
 rintro ⟨env, ⟨sto, c⟩⟩ ⟨g0, g1⟩
 simp only at g0 g1
 obtain ⟨q, hq⟩ : ∃ q, q = c + 40 := ⟨_, rfl⟩
 have hq' : c + 40 = q := hq.symm
 refine Za (fun x => x.env.get 0 = v ∧ x.env.get 1 = w ∧ x.env.get 5 = .rsl q 1 0 nn ∧ x.st.get q = some (.cells (Nab (List.replicate nn 0)) false)) ?_ ?_
 ·simp only [↓Z0, ↓Xp, ↓Xt, Xq, Xc, Nac, Naa, Nat.reduceAdd, Nat.reduceMul, Nat.reduceLT, Nat.reduceEqDiff, reduceIte, Xm, Nat.reduceLeDiff, g0, g1, hla, hlb, wn, h0n, hnm, hz, hq', h01, Nat.mul_one]
  (repeat' (first | exact True.intro | rfl | assumption | omega | apply And.intro | exact St.get_putk _ _ _ | refine ⟨_, rfl, ?_⟩))
 clear g0 g1
 rintro ⟨env, ⟨sto, c⟩⟩ ⟨g0, g1, g5, kq⟩
 simp only at g0 g1 g5 kq
 replace kq : ∀ n, St.get ⟨sto, n⟩ q = some (.cells (Nab (List.replicate nn 0)) false) := fun _ => kq
 clear hq hq'
 have hc1 := fun m => Nja (st := ⟨sto, m⟩) (off := 0) (a := a) (kq m) (by simp; omega)
 have hr1 : (List.replicate nn (0 : UInt8)).take 0 ++ a ++ (List.replicate nn (0 : UInt8)).drop (0 + a.length) = a ++ List.replicate b.length 0 := by
  rw [List.take_zero, List.nil_append, List.drop_replicate, Nat.zero_add]
  congr 2; omega
 rw [hr1, List.length_replicate, Nat.sub_zero] at hc1
 refine Za (fun x => x.env.get 0 = v ∧ x.env.get 1 = w ∧ x.env.get 5 = .rsl q 1 0 nn ∧ x.st.get q = some (.cells (Nab (a ++ List.replicate b.length 0)) false)) ?_ ?_
 ·simp only [↓Z0, ↓Xp, ↓Xt, Xq, Xc, Nac, Naa, Nat.reduceAdd, Nat.reduceMul, Nat.reduceLT, Nat.reduceEqDiff, reduceIte, Xm, Nat.reduceLeDiff, g0, g1, g5, kq, hca, hc1]
  (repeat' (first | exact True.intro | rfl | assumption | omega | apply And.intro | exact St.get_putk _ _ _ | refine ⟨_, rfl, ?_⟩))
 clear g0 g1 g5 kq
 rintro ⟨env, ⟨sto, c⟩⟩ ⟨g0, g1, g5, kq⟩
 simp only at g0 g1 g5 kq
 replace kq : ∀ n, St.get ⟨sto, n⟩ q = some (.cells (Nab (a ++ List.replicate b.length 0)) false) := fun _ => kq
 clear hc1 hr1
 by_cases hs : a.length < nn ∨ a.length = 0
 ·have hsl : Nby 1 (some (.i .i64 (a.length : Int))) none (.rsl q 1 0 nn) = some (.rsl q 1 a.length (nn - a.length)) := by
   have hb := Ncd (k := .i64) (d := 0) (most := nn) (n := (a.length : Int)) ⟨by omega, by omega⟩
   unfold Nby
   simp only [Z0B_, hb, Int.toNat_natCast]
   rw [if_pos ⟨trivial, hs⟩]
   simp
  have hc2 := fun m => Nja (st := ⟨sto, m⟩) (off := a.length) (a := b) (kq m) (by simp)
  have hr2 : (a ++ List.replicate b.length (0 : UInt8)).take a.length ++ b ++ (a ++ List.replicate b.length (0 : UInt8)).drop (a.length + b.length) = a ++ b := by
   rw [List.take_left, List.drop_of_length_le (by simp), List.append_nil]
  have hr3 : (a ++ List.replicate b.length (0 : UInt8)).length - a.length = nn - a.length := by rw [List.length_append, List.length_replicate]; omega
  rw [hr2, hr3] at hc2
  refine Za (fun x => x.env.get 0 = v ∧ x.env.get 1 = w ∧ x.env.get 5 = .rsl q 1 0 nn ∧ x.st.get q = some (.cells (Nab (a ++ b)) false)) ?_ ?_
  ·simp only [↓Z0, ↓Xp, ↓Xt, Xq, Xc, Nac, Naa, Nat.reduceAdd, Nat.reduceMul, Nat.reduceLT, Nat.reduceEqDiff, reduceIte, Xm, Nat.reduceLeDiff, g0, g1, g5, kq, hla, hsl, hcb, hc2]
   (repeat' (first | exact True.intro | rfl | assumption | omega | apply And.intro | exact St.get_putk _ _ _ | refine ⟨_, rfl, ?_⟩))
  clear g0 g1 g5 kq
  rintro ⟨env, ⟨sto, c⟩⟩ ⟨g0, g1, g5, kq⟩
  simp only at g0 g1 g5 kq
  replace kq : ∀ n, St.get ⟨sto, n⟩ q = some (.cells (Nab (a ++ b)) false) := fun _ => kq
  simp only [↓Z0, ↓Xp, ↓Xt, Xq, Xc, Nac, Naa, Nat.reduceAdd, Nat.reduceMul, Nat.reduceLT, Nat.reduceEqDiff, reduceIte, g0, g1, g5, kq]
  refine ⟨nofun, _, rfl, q, ?_, kq _⟩
  simp only [Naz, ↓Z0, ↓Xp, ↓Xt, Xq, Xc, Nac, Naa, Nat.reduceAdd, Nat.reduceMul, Nat.reduceLT, Nat.reduceEqDiff, reduceIte, List.length_append, hn]
 ·have hb0 : b = [] := List.length_eq_zero_iff.1 (by omega)
  subst hb0
  have hsl : Nby 1 (some (.i .i64 (a.length : Int))) none (.rsl q 1 0 nn) = some (.fsl 0 []) := by
   have hb := Ncd (k := .i64) (d := 0) (most := nn) (n := (a.length : Int)) ⟨by omega, by omega⟩
   unfold Nby
   simp only [Z0B_, hb, Int.toNat_natCast]
   rw [if_neg (fun h => hs h.2), if_pos trivial]
  have hc2 : ∀ st, Nc3 st 1 0 [] (.fsl 0 []) = some (.i .i64 0, st) := fun _ => rfl
  have hcb' : ∀ st, cellsOf st 1 w = some (0, []) := hcb
  have kq' : St.get ⟨sto, c⟩ q = some (.cells (Nab (a ++ [])) false) := by
   have := kq c
   simpa using this
  simp only [↓Z0, ↓Xp, ↓Xt, Xq, Xc, Nac, Naa, Nat.reduceAdd, Nat.reduceMul, Nat.reduceLT, Nat.reduceEqDiff, reduceIte, g0, g1, g5, kq, hla, hsl, hcb', hc2]
  refine ⟨nofun, _, rfl, q, ?_, kq'⟩
  have hn' : a.length + 0 = nn := hn
  simp only [Naz, ↓Z0, ↓Xp, ↓Xt, Xq, Xc, Nac, Naa, Nat.reduceAdd, Nat.reduceMul, Nat.reduceLT, Nat.reduceEqDiff, reduceIte, List.length_append, hn']
def NbS : List PV → Option PV
 | [v, w] => match inL v, inL w with
   | some a, some b => if a.length + b.length ≤ 140737488355328 then some (.osl 1 (a ++ b).length (Nab (a ++ b))) else none
   | _, _ => none
 | _ => none
theorem Ne3 (args : List PV) (r : PV) (h : NbS args = some r) : ∃ fuel, evP cfgE0 fuel 39 args = some r := by
 unfold NbS at h
 split at h
 ·rename_i v w
  split at h
  ·rename_i a b h1 h2
   split at h
   ·rename_i hc
    simp only [Sj] at h
    subst h
    obtain ⟨r, st', h3, q, h4, h5⟩ := NnS (cfg := cfgE0) (by kernel_rfl) (fuel := 0) h1 h2 hc
    exact ⟨0 + 1, Na2 rfl (NaH h1) ⟨r, st', h3, by rw [h4]; exact NaX h5⟩⟩
   ·simp at h
  ·simp at h
 ·simp at h
theorem Nhg {cfg : Cfg} (hf : cfg.fn 85 = some m85) (hx : cfg.ext 85 = none) : ∀ (l : List UInt8) (v : PV) (fuel : Nat), inL v = some l → l.length < fuel → evP cfg fuel 85 [v] = some (.i .u64 (weighsN l))
 | [], v, 0, _, h => by simp at h
 | c :: l, v, 0, _, h => by simp at h
 | [], v, fuel + 1, hv, _ => by
   refine Nbe hx (NaH hv) (fun _ => rfl) (Naw hf ?_)
   unfold m85
   have hlv : NfG v = some (.i .i64 ((0 : Nat) : Int)) := Nba hv
   have e0 : (((0 : Nat) : Int) == Int.ofNat 0) = true := rfl
   simp only [Nae, ↓Z0, ↓Xp, ↓Xt, Xq, Xc, Nac, Naa, Nat.reduceAdd, Nat.reduceMul, Nat.reduceLT, Nat.reduceEqDiff, reduceIte, hlv, e0]
   refine ⟨nofun, _, rfl, ?_⟩
   simp only [Naz, ↓Z0, ↓Xp, ↓Xt, Xq, Xc, Nac, Naa, Nat.reduceAdd, Nat.reduceMul, Nat.reduceLT, Nat.reduceEqDiff, reduceIte]
   rfl
 | c :: l, v, fuel + 1, hv, hfu => by
   refine Nbe hx (NaH hv) (fun _ => rfl) (Naw hf ?_)
   unfold m85
   have hwc : weighsN (c :: l) = (c.toNat % 128 + 128 * weighsN l) % 18446744073709551616 := rfl
   rw [hwc]
   obtain ⟨L, hL⟩ : ∃ L, c :: l = L := ⟨_, rfl⟩
   have hLl : L.length = l.length + 1 := by rw [← hL]; rfl
   have hgd : L.getD 0 0 = c := by rw [← hL]; rfl
   have hdr : L.drop 1 = l := by rw [← hL]; rfl
   have hL0 : L ≠ [] := by rw [← hL]; simp
   rw [hL] at hv hfu
   have hlv := Nba hv
   have e0 : ((L.length : Int) == Int.ofNat 0) = false := by simp; exact hL0
   have hvc := Nbd hv hL0
   subst hvc
   have hcl : (Nab L).length = L.length * 1 := by rw [Nai, Nat.mul_one]
   have h0 : 0 ≤ Int.ofNat 0 := Int.le_refl _
   have h1 : Int.ofNat 0 < (L.length : Int) := by show (0 : Int) < L.length; omega
   have hld := fun st => Ncl (st := st) (l := L) (i := 0) (by omega)
   obtain ⟨v2, hsl, hv2⟩ := NgE hv (a := 1) (by omega)
   have hsl' : Nby 1 (some (.i .i64 (Int.ofNat 1))) none (.fsl L.length (Nab L)) = some v2 := hsl
   have hv2' : inL v2 = some l := by rw [hv2, hdr]
   have ih : Nag cfg (NaB cfg fuel) 85 [v2] = some (.i .u64 (weighsN l)) := Nhg hf hx l v2 fuel hv2' (by omega)
   have hdp : ∀ st, NaU st [v2] = some [v2] := fun st => NaA (by simp only [List.all_cons, Na3 hv2', List.all_nil, Bool.and_self])
   have hcl2 : (PV.i .u64 (weighsN l : Int)).closedB = true := rfl
   have hrc : ∀ st key, NaC st key (.i .u64 (weighsN l : Int)) = some (.i .u64 (weighsN l : Int), st) := fun _ _ => rfl
   have hc2 := c.toNat_lt
   have h128 : ¬ (Int.ofNat 128 = 0) := by decide
   rw [hgd] at hld
   have hld' : ∀ st, loadP st 1 (.fptr ((Nab L).drop ((Int.ofNat 0).toNat * 1))) = some [.i .u8 (c.toNat : Int)] := hld
   have hrem : ((c.toNat : Nat) : Int).tmod (Int.ofNat 128) = ((c.toNat % 128 : Nat) : Int) := rfl
   have w1 : IntKind.u64.wrap ((c.toNat % 128 : Nat) : Int) = ((c.toNat % 128 : Nat) : Int) := Nbm _ ⟨by omega, by omega⟩
   have hwl := Ncv l
   generalize weighsN l = W at *
   have w2 : IntKind.u64.wrap (Int.ofNat 128 * (W : Int)) = ((128 * W % 18446744073709551616 : Nat) : Int) := by
    rw [IntKind.wrap_u64]
    show ((128 : Int) * (W : Int)) % 18446744073709551616 = _
    omega
   have w3 : IntKind.u64.wrap (((c.toNat % 128 : Nat) : Int) + ((128 * W % 18446744073709551616 : Nat) : Int)) = (((c.toNat % 128 + 128 * W) % 18446744073709551616 : Nat) : Int) := by
    rw [IntKind.wrap_u64]
    omega
   simp only [Nae, ↓Z0, ↓Xp, ↓Xt, Xq, Xc, Nac, Naa, Nat.reduceAdd, Nat.reduceMul, Nat.reduceLT, Nat.reduceEqDiff, reduceIte, hlv, e0, hcl, h0, h1, hld', h128, hrem, w1, hsl', hdp, ih, hcl2, hrc, w2, w3]
   refine ⟨nofun, _, rfl, ?_⟩
   simp only [Naz, ↓Z0, ↓Xp, ↓Xt, Xq, Xc, Nac, Naa, Nat.reduceAdd, Nat.reduceMul, Nat.reduceLT, Nat.reduceEqDiff, reduceIte]
def Ndg : List PV → Option PV
 | [v] => match inL v with
   | some l => some (.i .u64 (weighsN l))
   | none => none
 | _ => none
theorem NkD (args : List PV) (r : PV) (h : Ndg args = some r) : ∃ fuel, evP cfgE0 fuel 85 args = some r := by
 unfold Ndg at h
 split at h
 ·rename_i v
  split at h
  ·rename_i l hl
   simp only [Sj] at h
   subst h
   exact ⟨l.length + 1, Nhg (cfg := cfgE0) (by kernel_rfl) rfl l v _ hl (Nat.lt_succ_self _)⟩
  ·simp at h
 ·simp at h
def Nrt : FuncId → Option (List PV → Option PV) := fun f => if f = 35 then some Nd5 else if f = 39 then some NbS else if f = 85 then some Ndg else none
noncomputable def cfgR1 : Cfg := { fn := fun f => Nbr f tblL, ext := Nrt }
theorem NbG {Gl : Gmap} : CfgOK Go.Proofs.Try.prog Gl cfgE0 := NaP NaQ fun f g h => by simp at h
theorem NcC {Gl : Gmap} : CfgOK Go.Proofs.Try.prog Gl cfgR1 := by
 refine NaP NaQ ?_
 intro f g h
 unfold Nrt at h
 split at h
 ·rename_i e; simp only [Sj] at h; subst h; subst e
  exact Nam NbG Ndo
 split at h
 ·rename_i e; simp only [Sj] at h; subst h; subst e
  exact Nam NbG Ne3
 split at h
 ·rename_i e; simp only [Sj] at h; subst h; subst e
  exact Nam NbG NkD
 ·simp at h
section
variable {cfg : Cfg} {callE : CallE}
theorem Nn4 (hx : cfg.ext 35 = some Nd5) {st : St} {key n : Nat} (hn : n < 18446744073709551616) : Naf (Nag cfg callE 35) false st key [.i .u64 n] = some (.rsl key 1 0 (Nah n).length, st.put key (some (.cells (Nab (Nah n)) false))) := by
 refine Nas (Nes (Ndx _ _ _)) (r := .osl 1 (Nah n).length (Nab (Nah n))) ?_ (Nbc _ _)
 rw [Nad hx]
 unfold Nd5
 simp only [Int.toNat_natCast]
 rw [if_pos ⟨by omega, by omega⟩]
theorem NiX (hx : cfg.ext 39 = some NbS) {st : St} {key : Nat} {v w v' w' : PV} {a b : List UInt8} (hd : NaU st [v, w] = some [v', w']) (ha : inL v' = some a) (hb : inL w' = some b) (hl : a.length + b.length ≤ 140737488355328) : Naf (Nag cfg callE 39) false st key [v, w] = some (.rsl key 1 0 (a ++ b).length, st.put key (some (.cells (Nab (a ++ b)) false))) := by
 refine Nas hd (r := .osl 1 (a ++ b).length (Nab (a ++ b))) ?_ (Nbc _ _)
 rw [Nad hx]
 unfold NbS
 simp only [ha, hb]
 rw [if_pos hl]
end
theorem Ncn {st : St} {v : PV} {l : List UInt8} (h : inL v = some l) : deep st 12 v = some v := NcU 11 (Na3 h)
theorem NnI {cfg : Cfg} (hf : cfg.fn 17 = some m17) (hx1 : cfg.ext 35 = some Nd5) (hx2 : cfg.ext 39 = some NbS) {fuel : Nat} {v : PV} {a : List UInt8} (hv : inL v = some a) {N : Nat} (hN : N < 18446744073709551616) (hl : a.length + 10 ≤ 140737488355328) :
 ∃ r st', NaB cfg (fuel + 1) 17 [v, .i .u64 N] { sto := .leaf, cnt := 1 } = some (r, st') ∧ ∃ q, r = .rsl q 1 0 (a ++ Nah N).length ∧ st'.get q = some (.cells (Nab (a ++ Nah N)) false) := by
 refine Naw hf ?_
 unfold m17
 have hc1 := fun st key => Nn4 (callE := NaB cfg fuel) hx1 (st := st) (key := key) hN
 have hvl := NaY N
 have hc2 : ∀ (S : St) (n key key2 : Nat), Naf (Nag cfg (NaB cfg fuel) 39) false ⟨(S.put key (some (.cells (Nab (Nah N)) false))).sto, n⟩ key2 [v, .rsl key 1 0 (Nah N).length] = some (.rsl key2 1 0 (a ++ Nah N).length, (⟨(S.put key (some (.cells (Nab (Nah N)) false))).sto, n⟩ : St).put key2 (some (.cells (Nab (a ++ Nah N)) false))) := fun S n key key2 => NiX hx2 (Neo (Ncn hv) (Nej (NrC S n key _))) hv (NbD _) (by omega)
 simp only [Nae, ↓Z0, ↓Xp, ↓Xt, Xq, Xc, Nac, Naa, Nat.reduceAdd, Nat.reduceMul, Nat.reduceLT, Nat.reduceEqDiff, reduceIte, hc1, hc2]
 refine ⟨nofun, _, rfl, _, ?_, St.get_putk _ _ _⟩
 simp only [Naz, ↓Z0, ↓Xp, ↓Xt, Xq, Xc, Nac, Naa, Nat.reduceAdd, Nat.reduceMul, Nat.reduceLT, Nat.reduceEqDiff, reduceIte]
def NcV : List PV → Option PV
 | [v, .i .u64 n] => match inL v with
   | some a => if 0 ≤ n ∧ n < 18446744073709551616 ∧ a.length + 10 ≤ 140737488355328 then some (.osl 1 (a ++ Nah n.toNat).length (Nab (a ++ Nah n.toNat))) else none
   | none => none
 | _ => none
theorem Nfh (args : List PV) (r : PV) (h : NcV args = some r) : ∃ fuel, evP cfgR1 fuel 17 args = some r := by
 unfold NcV at h
 split at h
 ·rename_i v n
  split at h
  ·rename_i a ha
   split at h
   ·rename_i hc
    simp only [Sj] at h
    subst h
    obtain ⟨r, st', h1, q, h2, h3⟩ := NnI (cfg := cfgR1) (by kernel_rfl) (by kernel_rfl) (by kernel_rfl) (fuel := 0) ha (N := n.toNat) (by omega) hc.2.2
    rw [show ((n.toNat : Nat) : Int) = n by omega] at h1
    exact ⟨0 + 1, Na2 (by kernel_rfl) (NaH ha) ⟨r, st', h1, by rw [h2]; exact NaX h3⟩⟩
   ·simp at h
  ·simp at h
 ·simp at h
def NrY : FuncId → Option (List PV → Option PV) := fun f => if f = 17 then some NcV else none
noncomputable def cfgR2 : Cfg := { fn := fun f => Nbr f tblL, ext := NrY }
theorem Nji {Gl : Gmap} : CfgOK Go.Proofs.Try.prog Gl cfgR2 := by
 refine NaP NaQ ?_
 intro f g h
 unfold NrY at h
 split at h
 ·rename_i e; simp only [Sj] at h; subst h; subst e
  exact Nam NcC Nfh
 ·simp at h
theorem NpP {cfg : Cfg} (hf : cfg.fn 49 = some m49) (hx : cfg.ext 17 = some NcV) {fuel : Nat} {v : PV} {a : List UInt8} (hv : inL v = some a) {n : Int} (hn : NcN n) (hl : a.length + 10 ≤ 140737488355328) :
 ∃ r st', NaB cfg (fuel + 1) 49 [v, .i .i64 n] { sto := .leaf, cnt := 1 } = some (r, st') ∧ ∃ q, r = .rsl q 1 0 (a ++ Nah (foldN n)).length ∧ st'.get q = some (.cells (Nab (a ++ Nah (foldN n))) false) := by
 refine Naw hf ?_
 unfold m49
 unfold NcN at hn
 have hc : ∀ (N : Nat) (st : St) key, N < 18446744073709551616 → Naf (Nag cfg (NaB cfg fuel) 17) false st key [v, .i .u64 (N : Int)] = some (.rsl key 1 0 (a ++ Nah N).length, st.put key (some (.cells (Nab (a ++ Nah N)) false))) := by
  intro N st key hN
  refine Nas (Neo (Ncn hv) (Ndx _ _ _)) (r := .osl 1 (a ++ Nah N).length (Nab (a ++ Nah N))) ?_ (Nbc _ _)
  rw [Nad hx]
  unfold NcV
  simp only [hv, Int.toNat_natCast]
  rw [if_pos ⟨by omega, by omega, hl⟩]
 by_cases hneg : n < 0
 ·have e0 : n < Int.ofNat 0 := hneg
  have hfold : foldN n = (-2 * n - 1).toNat := by unfold foldN; rw [if_neg (by omega)]
  have w1 : IntKind.i64.wrap (Int.negSucc 0 - n) = ((-1 - n).toNat : Int) := by
   rw [NaK _ ⟨by show _ ≤ (-1 : Int) - n; omega, by show (-1 : Int) - n < _; omega⟩]
   show (-1 : Int) - n = _
   omega
  have w2 : IntKind.u64.wrap (((-1 - n).toNat : Nat) : Int) = ((-1 - n).toNat : Int) := Nbm _ ⟨by omega, by omega⟩
  have w3 : IntKind.u64.wrap (Int.ofNat 2 * ((-1 - n).toNat : Int)) = ((2 * (-1 - n).toNat : Nat) : Int) := by
   rw [Nbm _ ⟨by show 0 ≤ (2 : Int) * _; omega, by show (2 : Int) * _ < _; omega⟩]
   show (2 : Int) * _ = _
   omega
  have w4 : IntKind.u64.wrap (((2 * (-1 - n).toNat : Nat) : Int) + Int.ofNat 1) = ((foldN n : Nat) : Int) := by
   rw [Nbm _ ⟨by show 0 ≤ ((2 * (-1 - n).toNat : Nat) : Int) + 1; omega, by show ((2 * (-1 - n).toNat : Nat) : Int) + 1 < _; omega⟩]
   show ((2 * (-1 - n).toNat : Nat) : Int) + 1 = _
   omega
  have hc' := fun st key => hc (foldN n) st key (by omega)
  simp only [Nae, ↓Z0, ↓Xp, ↓Xt, Xq, Xc, Nac, Naa, Nat.reduceAdd, Nat.reduceMul, Nat.reduceLT, Nat.reduceEqDiff, reduceIte, e0, w1, w2, w3, w4, hc']
  refine ⟨nofun, _, rfl, _, ?_, St.get_putk _ _ _⟩
  simp only [Naz, ↓Z0, ↓Xp, ↓Xt, Xq, Xc, Nac, Naa, Nat.reduceAdd, Nat.reduceMul, Nat.reduceLT, Nat.reduceEqDiff, reduceIte]
 ·have e0 : ¬ n < Int.ofNat 0 := hneg
  have hfold : foldN n = (2 * n).toNat := by unfold foldN; rw [if_pos (by omega)]
  have w2 : IntKind.u64.wrap n = n := Nbm _ ⟨by omega, by omega⟩
  have w3 : IntKind.u64.wrap (Int.ofNat 2 * n) = ((foldN n : Nat) : Int) := by
   rw [Nbm _ ⟨by show 0 ≤ (2 : Int) * n; omega, by show (2 : Int) * n < _; omega⟩]
   show (2 : Int) * n = _
   omega
  have hc' := fun st key => hc (foldN n) st key (by omega)
  simp only [Nae, ↓Z0, ↓Xp, ↓Xt, Xq, Xc, Nac, Naa, Nat.reduceAdd, Nat.reduceMul, Nat.reduceLT, Nat.reduceEqDiff, reduceIte, e0, w2, w3, hc']
  refine ⟨nofun, _, rfl, _, ?_, St.get_putk _ _ _⟩
  simp only [Naz, ↓Z0, ↓Xp, ↓Xt, Xq, Xc, Nac, Naa, Nat.reduceAdd, Nat.reduceMul, Nat.reduceLT, Nat.reduceEqDiff, reduceIte]
def NgN : List PV → Option PV
 | [v, .i .i64 n] => match inL v with
   | some a => if -9223372036854775808 ≤ n ∧ n < 9223372036854775808 ∧ a.length + 10 ≤ 140737488355328 then some (.osl 1 (a ++ Nah (foldN n)).length (Nab (a ++ Nah (foldN n)))) else none
   | none => none
 | _ => none
theorem Ni9 (args : List PV) (r : PV) (h : NgN args = some r) : ∃ fuel, evP cfgR2 fuel 49 args = some r := by
 unfold NgN at h
 split at h
 ·rename_i v n
  split at h
  ·rename_i a ha
   split at h
   ·rename_i hc
    simp only [Sj] at h
    subst h
    obtain ⟨r, st', h1, q, h2, h3⟩ := NpP (cfg := cfgR2) (by kernel_rfl) (by kernel_rfl) (fuel := 0) ha (n := n) (by unfold NcN; omega) hc.2.2
    exact ⟨0 + 1, Na2 (by kernel_rfl) (NaH ha) ⟨r, st', h1, by rw [h2]; exact NaX h3⟩⟩
   ·simp at h
  ·simp at h
 ·simp at h
end Go.Pe
set_option linter.unusedVariables false
set_option linter.unusedSimpArgs false
namespace Go.Pe
open Go Go.Am Go.RowKit

theorem NiD (k r A : Nat) (h : r < 2 ^ k) : 2 ^ k * A + r = 2 ^ k * A ^^^ r := by
 rw [Nat.two_pow_add_eq_or_of_lt h]
 apply Nat.eq_of_testBit_eq
 intro i
 rw [Nat.testBit_or, Nat.testBit_xor]
 by_cases hi : i < k
 ·have : (2 ^ k * A).testBit i = false := by
   rw [Nat.testBit_two_pow_mul]; simp; omega
  rw [this]; simp
 ·have : r.testBit i = false := Nat.testBit_lt_two_pow (Nat.lt_of_lt_of_le h (Nat.pow_le_pow_right (by decide) (by omega)))
  rw [this]; simp
theorem Nh0 (L i : Nat) (h : L ≤ i) : topFrom L i = topFrom L (i + 1) ^^^ (if i < 32 then 2 ^ (i - L) else 0) := by
 unfold topFrom
 rw [if_pos h, if_pos (by omega)]
 by_cases h32 : i < 32
 ·rw [if_pos h32]
  have e1 : ∀ j : Nat, j ≤ 32 → 4294967295 / 2 ^ j = 2 ^ (32 - j) - 1 := by
   intro j hj
   have : ∀ j : Fin 33, 4294967295 / 2 ^ j.val = 2 ^ (32 - j.val) - 1 := by decide
   exact this ⟨j, by omega⟩
  rw [e1 i (by omega), e1 (i + 1) (by omega)]
  have e2 : 2 ^ (32 - i) = 2 * 2 ^ (32 - (i + 1)) := by rw [← Nat.pow_succ']; congr 1; omega
  have e3 : 2 ^ (i + 1 - L) = 2 * 2 ^ (i - L) := by rw [← Nat.pow_succ']; congr 1; omega
  have h1 := Nat.two_pow_pos (32 - (i + 1))
  obtain ⟨A, hA⟩ : ∃ A, 2 ^ (32 - (i + 1)) = A + 1 := ⟨2 ^ (32 - (i + 1)) - 1, by omega⟩
  rw [e2, e3, hA]
  have h2 : A * (2 * 2 ^ (i - L)) = 2 ^ (i - L + 1) * A := by rw [Nat.pow_succ', Nat.mul_comm]
  have h3 : 2 ^ (i - L) < 2 ^ (i - L + 1) := Nat.pow_lt_pow_right (by decide) (by omega)
  rw [show A + 1 - 1 = A by omega, h2, ← NiD _ _ _ h3]
  rw [show 2 * (A + 1) - 1 = 2 * A + 1 by omega, Nat.pow_succ', Nat.add_mul, Nat.one_mul]
  congr 1
  rw [Nat.mul_comm (2 * A), Nat.mul_comm 2 (2 ^ (i - L)), Nat.mul_assoc]
 ·rw [if_neg h32, Nat.xor_zero]
  have e32 : (2 : Nat) ^ 32 = 4294967296 := by decide
  have h1 : 2 ^ 32 ≤ 2 ^ i := Nat.pow_le_pow_right (by decide) (by omega)
  have h2 : 2 ^ 32 ≤ 2 ^ (i + 1) := Nat.pow_le_pow_right (by decide) (by omega)
  rw [Nat.div_eq_of_lt (by omega), Nat.div_eq_of_lt (by omega), Nat.zero_mul, Nat.zero_mul]
theorem Nix (L : Nat) : topFrom L (L + 32) = 0 := by
 unfold topFrom
 have e32 : (2 : Nat) ^ 32 = 4294967296 := by decide
 have h1 : 2 ^ 32 ≤ 2 ^ (L + 32) := Nat.pow_le_pow_right (by decide) (by omega)
 rw [if_pos (by omega), Nat.div_eq_of_lt (by omega), Nat.zero_mul]
theorem Nkg (L i : Nat) : topFrom L i < 4294967296 := by
 unfold topFrom
 split
 ·have h : 4294967295 / 2 ^ i * 2 ^ (i - L) ≤ 4294967295 / 2 ^ i * 2 ^ i := Nat.mul_le_mul_left _ (Nat.pow_le_pow_right (by decide) (by omega))
  have h2 := Nat.div_mul_le_self 4294967295 (2 ^ i)
  omega
 ·omega
theorem NiH (L : Nat) : topFrom L L = 4294967295 / 2 ^ L := by
 unfold topFrom
 rw [if_pos (Nat.le_refl _), Nat.sub_self, Nat.pow_zero, Nat.mul_one]
def Ndv : List PV → Option PV
 | [.i .u32 n] => if 0 ≤ n ∧ n < 4294967296 then some (.i .u32 ((NbW n.toNat : Nat) : Int)) else none
 | _ => none
theorem Nj5 (args : List PV) (r : PV) (h : Ndv args = some r) : ∃ fuel, evP cfgE0 fuel 59 args = some r := by
 unfold Ndv at h
 split at h
 ·rename_i z
  split at h
  ·rename_i hc
   simp only [Sj] at h
   subst h
   obtain ⟨n, rfl⟩ : ∃ n : Nat, z = (n : Int) := ⟨z.toNat, by omega⟩
   rw [Int.toNat_natCast]
   refine ⟨0 + 1, Nbe rfl rfl (fun _ => rfl) (Naw (by kernel_rfl : cfgE0.fn 59 = some m59) ?_)⟩
   unfold m59
   have h2 : ¬ (Int.ofNat 2 = 0) := by decide
   have hrem : (n : Int).tmod (Int.ofNat 2) = ((n % 2 : Nat) : Int) := rfl
   have hquo : (n : Int).tdiv (Int.ofNat 2) = ((n / 2 : Nat) : Int) := rfl
   have wq : IntKind.u32.wrap ((n / 2 : Nat) : Int) = ((n / 2 : Nat) : Int) := Neg _ ⟨by omega, by omega⟩
   by_cases hb : n % 2 = 1
   ·have e1 : (((n % 2 : Nat) : Int) == Int.ofNat 1) = true := by rw [hb]; rfl
    have hx : NbR .xor .u32 ((n / 2 : Nat) : Int) (Int.ofNat 3988292384) = some (.i .u32 ((n / 2 ^^^ 3988292384 : Nat) : Int)) := Nb4 (n / 2) 3988292384 (by omega) (by decide)
    simp only [Nae, ↓Z0, ↓Xp, ↓Xt, Xq, Xc, Nac, Naa, Nat.reduceAdd, Nat.reduceMul, Nat.reduceLT, Nat.reduceEqDiff, reduceIte, h2, hrem, hquo, wq, e1, hx]
    refine ⟨nofun, _, rfl, ?_⟩
    simp only [Naz, ↓Z0, ↓Xp, ↓Xt, Xq, Xc, Nac, Naa, Nat.reduceAdd, Nat.reduceMul, Nat.reduceLT, Nat.reduceEqDiff, reduceIte]
    unfold NbW
    rw [if_pos hb]
   ·have e1 : (((n % 2 : Nat) : Int) == Int.ofNat 1) = false := by rw [show n % 2 = 0 by omega]; rfl
    simp only [Nae, ↓Z0, ↓Xp, ↓Xt, Xq, Xc, Nac, Naa, Nat.reduceAdd, Nat.reduceMul, Nat.reduceLT, Nat.reduceEqDiff, reduceIte, h2, hrem, hquo, wq, e1]
    refine ⟨nofun, _, rfl, ?_⟩
    simp only [Naz, ↓Z0, ↓Xp, ↓Xt, Xq, Xc, Nac, Naa, Nat.reduceAdd, Nat.reduceMul, Nat.reduceLT, Nat.reduceEqDiff, reduceIte]
    unfold NbW
    rw [if_neg hb]
  ·simp at h
 ·simp at h
theorem Npn {cfg : Cfg} (hf : cfg.fn 40 = some m40) (hx : cfg.ext 59 = some Ndv) {v : PV} {l : List UInt8} (hv : inL v = some l) (hl : l.length ≤ 140737488355328) {fuel : Nat} (hfu : 8 * l.length + 40 ≤ fuel) :
 ∃ r st', NaB cfg (fuel + 1) 40 [v] { sto := .leaf, cnt := 1 } = some (r, st') ∧ r = .i .u32 ((crc l : Nat) : Int) := by
 refine Naw hf ?_
 unfold m40
 have hlv := Nba hv
 obtain ⟨L, hL⟩ : ∃ L, 8 * l.length = L := ⟨_, rfl⟩
 have wL : IntKind.i64.wrap (Int.ofNat 8 * (l.length : Int)) = (L : Int) := by
  rw [NaK _ ⟨by show _ ≤ (8 : Int) * _; omega, by show (8 : Int) * _ < _; omega⟩]
  show (8 : Int) * _ = _
  omega
 have w31 : IntKind.i64.wrap ((L : Int) + Int.ofNat 31) = ((L + 32 : Nat) : Int) - 1 := by
  rw [NaK _ ⟨by show _ ≤ (L : Int) + 31; omega, by show (L : Int) + 31 < _; omega⟩]
  show (L : Int) + 31 = _
  omega
 have wL1 : IntKind.i64.wrap ((L : Int) - Int.ofNat 1) = (L : Int) - 1 := NaK _ ⟨by show _ ≤ (L : Int) - 1; omega, by show (L : Int) - 1 < _; omega⟩
 have hX := NpA l
 have hXt := NiN l
 have hXb := NpH l
 obtain ⟨X, hXd⟩ : ∃ X, 4294967295 ^^^ Ngg l = X := ⟨_, rfl⟩
 rw [hXd, hL] at hX hXt
 simp only [hXd, hL] at hXb
 refine Za (fun x => x.env.get 0 = v) ?_ ?_
 ·simp only [↓Z0, ↓Xp, ↓Xt, Xq, Xc, Nac, Naa, Nat.reduceAdd, Nat.reduceMul, Nat.reduceLT, Nat.reduceEqDiff, reduceIte, Xm, Nat.reduceLeDiff, Nae]
  (repeat' (first | exact True.intro | rfl | assumption | omega | apply And.intro | exact St.get_putk _ _ _ | refine ⟨_, rfl, ?_⟩))
 rintro ⟨env, ⟨sto, c⟩⟩ g0
 simp only at g0
 refine Za (fun x => x.env.get 0 = v ∧ x.env.get 3 = .i .u32 (Int.ofNat 0) ∧ x.env.get 4 = .i .u32 (Int.ofNat 1)) ?_ ?_
 ·simp only [↓Z0, ↓Xp, ↓Xt, Xq, Xc, Nac, Naa, Nat.reduceAdd, Nat.reduceMul, Nat.reduceLT, Nat.reduceEqDiff, reduceIte, Xm, Nat.reduceLeDiff, g0]
  (repeat' (first | exact True.intro | rfl | assumption | omega | apply And.intro | exact St.get_putk _ _ _ | refine ⟨_, rfl, ?_⟩))
 clear g0
 rintro ⟨env, ⟨sto, c⟩⟩ ⟨g0, g3, g4⟩
 simp only at g0 g3 g4
 -- what is still in the register
 refine Za (fun x => x.env.get 0 = v ∧ x.env.get 3 = .i .u32 ((sumFrom X L L : Nat) : Int) ∧ x.env.get 4 = .i .u32 ((msn 0 1 : Nat) : Int)) ?_ ?_
 ·rw [Z0]
  simp only [↓Xp, ↓Xt, Xq, Xc, Nac, Naa, Nat.reduceAdd, Nat.reduceMul, Nat.reduceLT, Nat.reduceEqDiff, reduceIte, g0, hlv, wL, w31]
  refine Z9 (k := L + 32 - L) (fun d x => ∃ j : Nat, L ≤ j ∧ j ≤ L + 32 ∧ d = j - L ∧ x.env.get 0 = v ∧ x.env.get 3 = .i .u32 ((topFrom L j : Nat) : Int) ∧ x.env.get 4 = .i .u32 ((msn 0 1 : Nat) : Int) ∧ x.env.get 5 = .i .i64 ((j : Int) - 1)) ?_ ?_ (by omega)
  ·clear g0 g3 g4
   rintro d ⟨env, ⟨sto, c⟩⟩ ⟨j, hj1, hj2, rfl, g0, g3, g4, g5⟩
   simp only at g0 g3 g4 g5
   by_cases hlt : L < j
   ·obtain ⟨i, rfl⟩ : ∃ i, j = i + 1 := ⟨j - 1, by omega⟩
    have g5' : env.get 5 = .i .i64 (i : Int) := by rw [g5]; congr 1; omega
    clear g5
    have e1 : (i : Int) ≥ (L : Int) := by omega
    have hs := Nh0 L i (by omega)
    have wd : IntKind.i64.wrap ((i : Int) - Int.ofNat 1) = (i : Int) - 1 := NaK _ ⟨by show _ ≤ (i : Int) - 1; omega, by show (i : Int) - 1 < _; omega⟩
    by_cases h32 : i < 32
    ·have e2 : (i : Int) < Int.ofNat 32 := by show (i : Int) < 32; omega
     rw [if_pos h32] at hs
     obtain ⟨t, ht⟩ : ∃ t, i - L = t := ⟨_, rfl⟩
     rw [ht] at hs
     have wt : IntKind.i64.wrap ((i : Int) - (L : Int)) = (t : Int) := by
      rw [NaK _ ⟨by omega, by omega⟩]; omega
     have ht0 : ¬ ((t : Int) < 0) := by omega
     have hpw : (2 : Nat) ^ t < 4294967296 := by
      have : (2 : Nat) ^ t ≤ 2 ^ 31 := Nat.pow_le_pow_right (by decide) (by omega)
      have e31 : (2 : Nat) ^ 31 = 2147483648 := by decide
      omega
     have hsh : IntKind.u32.wrap (Int.ofNat 1 * 2 ^ (min t IntKind.u32.bits)) = ((2 ^ t : Nat) : Int) := by
      have h1 : Int.ofNat 1 * 2 ^ (min t IntKind.u32.bits) = ((2 ^ t : Nat) : Int) := by
       rw [show min t IntKind.u32.bits = t by show min t 32 = t; omega]
       show (1 : Int) * 2 ^ t = _
       rw [Int.one_mul]; push_cast; rfl
      rw [h1]
      exact Neg _ ⟨Int.natCast_nonneg _, Int.ofNat_lt.2 hpw⟩
     have hxo := Nb4 (topFrom L (i + 1)) (2 ^ t) (Nkg _ _) hpw
     rw [← hs] at hxo
     simp only [↓Z0, ↓Xp, ↓Xt, Xq, Xc, Nac, Naa, Nat.reduceAdd, Nat.reduceMul, Nat.reduceLT, Nat.reduceEqDiff, reduceIte, g0, g3, g4, g5', hlv, wL, e1, e2, wt, ht0, hsh, hxo, wd]
     refine ⟨i - L, by omega, i, ?_⟩
     (repeat' (first | exact True.intro | rfl | assumption | omega | apply And.intro))
    ·have e2 : ¬ (i : Int) < Int.ofNat 32 := by show ¬ (i : Int) < 32; omega
     rw [if_neg h32, Nat.xor_zero] at hs
     rw [← hs] at g3
     simp only [↓Z0, ↓Xp, ↓Xt, Xq, Xc, Nac, Naa, Nat.reduceAdd, Nat.reduceMul, Nat.reduceLT, Nat.reduceEqDiff, reduceIte, g0, g3, g4, g5', hlv, wL, e1, e2, wd]
     refine ⟨i - L, by omega, i, ?_⟩
     (repeat' (first | exact True.intro | rfl | assumption | omega | apply And.intro))
   ·have hjL : j = L := by omega
    subst hjL
    have e1 : ¬ ((j : Int) - 1 ≥ (j : Int)) := by omega
    rw [NiH, ← hXt] at g3
    simp only [↓Z0, ↓Xp, ↓Xt, Xq, Xc, Nac, Naa, Nat.reduceAdd, Nat.reduceMul, Nat.reduceLT, Nat.reduceEqDiff, reduceIte, g0, g3, g4, g5, hlv, wL, e1]
    (repeat' (first | exact True.intro | rfl | assumption | omega | apply And.intro))
  ·refine ⟨L + 32, by omega, Nat.le_refl _, rfl, ?_⟩
   simp only [Env.get_put, Nat.reduceEqDiff, if_false, if_true, g0, g3, g4]
   rw [Nix]
   (repeat' (first | exact True.intro | rfl | assumption | omega | apply And.intro))
 clear g0 g3 g4
 rintro ⟨env, ⟨sto, c⟩⟩ ⟨g0, g3, g4⟩
 simp only at g0 g3 g4
 refine Za (fun x => x.env.get 3 = .i .u32 ((sumFrom X L 0 : Nat) : Int)) ?_ ?_
 ·rw [Z0]
  simp only [↓Xp, ↓Xt, Xq, Xc, Nac, Naa, Nat.reduceAdd, Nat.reduceMul, Nat.reduceLT, Nat.reduceEqDiff, reduceIte, g0, hlv, wL, wL1]
  refine Z9 (k := L) (fun d x => d ≤ L ∧ x.env.get 0 = v ∧ sumFrom X L d < 4294967296 ∧ x.env.get 3 = .i .u32 ((sumFrom X L d : Nat) : Int) ∧ x.env.get 4 = .i .u32 ((msn (L - d) 1 : Nat) : Int) ∧ x.env.get 6 = .i .i64 ((d : Int) - 1)) ?_ ?_ (by omega)
  ·clear g0 g3 g4
   rintro d ⟨env, ⟨sto, c⟩⟩ ⟨hd, g0, hsl, g3, g4, g6⟩
   simp only at g0 g3 g4 g6
   by_cases hlt : 0 < d
   ·obtain ⟨i, rfl⟩ : ∃ i, d = i + 1 := ⟨d - 1, by omega⟩
    have g6' : env.get 6 = .i .i64 (i : Int) := by rw [g6]; congr 1; omega
    clear g6
    have hl0 : l ≠ [] := by intro e; rw [e] at hL; simp at hL; omega
    rw [Nbd hv hl0] at g0 ⊢
    have e1 : (i : Int) ≥ Int.ofNat 0 := by show (i : Int) ≥ 0; omega
    have wd : IntKind.i64.wrap ((i : Int) - Int.ofNat 1) = (i : Int) - 1 := NaK _ ⟨by show _ ≤ (i : Int) - 1; omega, by show (i : Int) - 1 < _; omega⟩
    have hst := Nhq X L i (by omega)
    have hbit := hXb i (by omega)
    have hwl : msn (L - (i + 1)) 1 < 4294967296 := NmG (by decide) _
    have hw1 : NbW (msn (L - (i + 1)) 1) = msn (L - i) 1 := by rw [← Nnd]; congr 1; omega
    have hwl2 : msn (L - i) 1 < 4294967296 := NmG (by decide) _
    have hch : ∀ (st : St) key, Naf (Nag cfg (NaB cfg fuel) 59) false st key [.i .u32 ((msn (L - (i + 1)) 1 : Nat) : Int)] = some (.i .u32 ((msn (L - i) 1 : Nat) : Int), st) := by
     intro st key
     refine Nap rfl ?_ rfl
     rw [Nad hx]
     unfold Ndv
     simp only [Int.toNat_natCast, hw1]
     rw [if_pos ⟨by omega, by omega⟩]
    have h8 : ¬ (Int.ofNat 8 = 0) := by decide
    have h2 : ¬ (Int.ofNat 2 = 0) := by decide
    have hq8 : (i : Int).tdiv (Int.ofNat 8) = ((i / 8 : Nat) : Int) := rfl
    have hr8 : (i : Int).tmod (Int.ofNat 8) = ((i % 8 : Nat) : Int) := rfl
    have wq : IntKind.i64.wrap ((i / 8 : Nat) : Int) = ((i / 8 : Nat) : Int) := NaK _ ⟨by omega, by omega⟩
    have hcl : (Nab l).length = l.length * 1 := by rw [Nai, Nat.mul_one]
    have h0i : 0 ≤ ((i / 8 : Nat) : Int) := by omega
    have hil : ((i / 8 : Nat) : Int) < (l.length : Int) := by omega
    have hld := fun st => Ncl (st := st) (l := l) (i := i / 8) (by omega)
    have hbe : bi l (i / 8) = (l.getD (i / 8) 0).toNat := rfl
    rw [hbe] at hbit
    have hbt := (l.getD (i / 8) 0).toNat_lt
    generalize (l.getD (i / 8) 0).toNat = B at *
    have ht0 : ¬ (((i % 8 : Nat) : Int) < 0) := by omega
    have hsh : (B : Int).fdiv (2 ^ (min (i % 8) IntKind.u8.bits)) = ((B / 2 ^ (i % 8) : Nat) : Int) := by
     rw [show min (i % 8) IntKind.u8.bits = i % 8 by show min (i % 8) 8 = _; omega]
     rw [Int.fdiv_eq_ediv_of_nonneg _ (Int.pow_nonneg (by decide))]
     push_cast
     rfl
    have hr2 : ((B / 2 ^ (i % 8) : Nat) : Int).tmod (Int.ofNat 2) = ((B / 2 ^ (i % 8) % 2 : Nat) : Int) := rfl
    have hsl2 : sumFrom X L i < 4294967296 := by
     rw [hst]
     split
     ·exact xor_lt32 hsl hwl2
     ·rw [Nat.xor_zero]; exact hsl
    have hxo := Nb4 (sumFrom X L (i + 1)) (msn (L - i) 1) hsl hwl2
    generalize B / 2 ^ (i % 8) = Y at *
    have heq1 : Nmu true (.b true) (.b true) = some (.b false) := rfl
    have heq2 : Nmu true (.b true) (.b false) = some (.b true) := rfl
    have heq3 : Nmu true (.b false) (.b true) = some (.b true) := rfl
    have heq4 : Nmu true (.b false) (.b false) = some (.b false) := rfl
    by_cases hY : Y % 2 = 1
    ·have e3 : (((Y % 2 : Nat) : Int) == Int.ofNat 1) = true := by rw [hY]; rfl
     by_cases h32 : i < 32
     ·have e4 : (i : Int) < Int.ofNat 32 := by show (i : Int) < 32; omega
      rw [if_pos h32] at hbit
      rw [if_neg (by omega), Nat.xor_zero] at hst
      simp only [↓Z0, ↓Xp, ↓Xt, Xq, Xc, Nac, Naa, Nat.reduceAdd, Nat.reduceMul, Nat.reduceLT, Nat.reduceEqDiff, reduceIte, g0, g3, g4, g6', e1, hch, h8, hq8, hr8, wq, hcl, h0i, hil, hld, ht0, hsh, h2, hr2, e3, e4, heq1, wd]
      refine ⟨i, by omega, by omega, ?_⟩
      rw [hst]
      (repeat' (first | exact True.intro | rfl | assumption | omega | apply And.intro))
     ·have e4 : ¬ (i : Int) < Int.ofNat 32 := by show ¬ (i : Int) < 32; omega
      rw [if_neg h32] at hbit
      rw [if_pos (by omega)] at hst
      rw [← hst] at hxo
      simp only [↓Z0, ↓Xp, ↓Xt, Xq, Xc, Nac, Naa, Nat.reduceAdd, Nat.reduceMul, Nat.reduceLT, Nat.reduceEqDiff, reduceIte, g0, g3, g4, g6', e1, hch, h8, hq8, hr8, wq, hcl, h0i, hil, hld, ht0, hsh, h2, hr2, e3, e4, heq2, hxo, wd]
      refine ⟨i, by omega, by omega, ?_⟩
      (repeat' (first | exact True.intro | rfl | assumption | omega | apply And.intro))
    ·have e3 : (((Y % 2 : Nat) : Int) == Int.ofNat 1) = false := by rw [show Y % 2 = 0 by omega]; rfl
     by_cases h32 : i < 32
     ·have e4 : (i : Int) < Int.ofNat 32 := by show (i : Int) < 32; omega
      rw [if_pos h32] at hbit
      rw [if_pos (by omega)] at hst
      rw [← hst] at hxo
      simp only [↓Z0, ↓Xp, ↓Xt, Xq, Xc, Nac, Naa, Nat.reduceAdd, Nat.reduceMul, Nat.reduceLT, Nat.reduceEqDiff, reduceIte, g0, g3, g4, g6', e1, hch, h8, hq8, hr8, wq, hcl, h0i, hil, hld, ht0, hsh, h2, hr2, e3, e4, heq3, hxo, wd]
      refine ⟨i, by omega, by omega, ?_⟩
      (repeat' (first | exact True.intro | rfl | assumption | omega | apply And.intro))
     ·have e4 : ¬ (i : Int) < Int.ofNat 32 := by show ¬ (i : Int) < 32; omega
      rw [if_neg h32] at hbit
      rw [if_neg (by omega), Nat.xor_zero] at hst
      simp only [↓Z0, ↓Xp, ↓Xt, Xq, Xc, Nac, Naa, Nat.reduceAdd, Nat.reduceMul, Nat.reduceLT, Nat.reduceEqDiff, reduceIte, g0, g3, g4, g6', e1, hch, h8, hq8, hr8, wq, hcl, h0i, hil, hld, ht0, hsh, h2, hr2, e3, e4, heq4, wd]
      refine ⟨i, by omega, by omega, ?_⟩
      rw [hst]
      (repeat' (first | exact True.intro | rfl | assumption | omega | apply And.intro))
   ·have hd0 : d = 0 := by omega
    subst hd0
    have e1 : ¬ (((0 : Nat) : Int) - 1 ≥ Int.ofNat 0) := by decide
    simp only [↓Z0, ↓Xp, ↓Xt, Xq, Xc, Nac, Naa, Nat.reduceAdd, Nat.reduceMul, Nat.reduceLT, Nat.reduceEqDiff, reduceIte, g0, g3, g4, g6, e1]
  ·simp only [Env.get_put, Nat.reduceEqDiff, if_false, if_true, g0, g3, g4, Nat.sub_self]
   refine ⟨Nat.le_refl _, trivial, ?_, ?_⟩
   ·rw [hXt]
    exact Nat.lt_of_le_of_lt (Nat.div_le_self _ _) (by decide)
   ·(repeat' (first | exact True.intro | rfl | assumption | omega | apply And.intro))
 clear g0 g3 g4
 rintro ⟨env, st1⟩ g3
 simp only at g3
 have hcr := NlJ l
 have w4 : IntKind.u32.wrap (Int.ofNat 4294967295 - ((sumFrom X L 0 : Nat) : Int)) = ((crc l : Nat) : Int) := by
  rw [hX]
  have h1 := Nlg l (r := 4294967295) (by decide)
  rw [Neg _ ⟨by show 0 ≤ (4294967295 : Int) - _; omega, by show (4294967295 : Int) - _ < _; omega⟩]
  unfold crc
  show (4294967295 : Int) - _ = _
  omega
 simp only [↓Z0, ↓Xp, ↓Xt, Xq, Xc, Nac, Naa, Nat.reduceAdd, Nat.reduceMul, Nat.reduceLT, Nat.reduceEqDiff, reduceIte, g3, w4]
 refine ⟨nofun, _, rfl, ?_⟩
 simp only [Naz, ↓Z0, ↓Xp, ↓Xt, Xq, Xc, Nac, Naa, Nat.reduceAdd, Nat.reduceMul, Nat.reduceLT, Nat.reduceEqDiff, reduceIte]
def Nlz : List PV → Option PV
 | [v] => match inL v with
   | some l => if l.length ≤ 140737488355328 then some (.i .u32 ((crc l : Nat) : Int)) else none
   | none => none
 | _ => none
def Nru : FuncId → Option (List PV → Option PV) := fun f => if f = 59 then some Ndv else none
noncomputable def cfgR3 : Cfg := { fn := fun f => Nbr f tblL, ext := Nru }
theorem Nni {Gl : Gmap} : CfgOK Go.Proofs.Try.prog Gl cfgR3 := by
 refine NaP NaQ ?_
 intro f g h
 unfold Nru at h
 split at h
 ·rename_i e; simp only [Sj] at h; subst h; subst e
  exact Nam NbG Nj5
 ·simp at h
theorem Nm6 (args : List PV) (r : PV) (h : Nlz args = some r) : ∃ fuel, evP cfgR3 fuel 40 args = some r := by
 unfold Nlz at h
 split at h
 ·rename_i v
  split at h
  ·rename_i l hl
   split at h
   ·rename_i hc
    simp only [Sj] at h
    subst h
    exact ⟨8 * l.length + 40 + 1, Nbe (by kernel_rfl) (NaH hl) (fun _ => rfl) (Npn (cfg := cfgR3) (by kernel_rfl) (by kernel_rfl) hl hc (Nat.le_refl _))⟩
   ·simp at h
  ·simp at h
 ·simp at h
def Nq0 : FuncId → Option (List PV → Option PV) := fun f => if f = 40 then some Nlz else if f = 39 then some NbS else none
noncomputable def cfgR4 : Cfg := { fn := fun f => Nbr f tblL, ext := Nq0 }
theorem New {Gl : Gmap} : CfgOK Go.Proofs.Try.prog Gl cfgR4 := by
 refine NaP NaQ ?_
 intro f g h
 unfold Nq0 at h
 split at h
 ·rename_i e; simp only [Sj] at h; subst h; subst e
  exact Nam Nni Nm6
 split at h
 ·rename_i e; simp only [Sj] at h; subst h; subst e
  exact Nam NbG Ne3
 ·simp at h
def Nd6 (l : List UInt8) (s j : Nat) : List UInt8 := l ++ (List.replicate (4 - j) 0 ++ (be4 s).drop (4 - j))
theorem Nmv (l : List UInt8) (s j : Nat) (h : j ≤ 4) : (Nd6 l s j).length = l.length + 4 := by
 have h4 : (be4 s).length = 4 := rfl
 unfold Nd6
 simp only [List.length_append, List.length_replicate, List.length_drop, h4]
 omega
theorem Nln (l : List UInt8) (s j : Nat) (h : j < 4) : (Nd6 l s j).set (l.length + (3 - j)) (UInt8.ofNat (s / 256 ^ j % 256)) = Nd6 l s (j + 1) := by
 have hm : ∀ x : Nat, UInt8.ofNat (x % 256) = UInt8.ofNat x := by
  intro x
  apply UInt8.toNat_inj.1
  rw [UInt8.toNat_ofNat', UInt8.toNat_ofNat']; omega
 unfold Nd6
 rw [List.set_append_right _ _ (by omega), Nat.add_sub_cancel_left, hm]
 congr 1
 have hj : j = 0 ∨ j = 1 ∨ j = 2 ∨ j = 3 := by omega
 rcases hj with rfl | rfl | rfl | rfl
 ·show [0, 0, 0, UInt8.ofNat (s / 256 ^ 0)] = [0, 0, 0, UInt8.ofNat s]
  rw [Nat.pow_zero, Nat.div_one]
 ·show [0, 0, UInt8.ofNat (s / 256 ^ 1), UInt8.ofNat s] = [0, 0, UInt8.ofNat (s / 256), UInt8.ofNat s]
  rw [Nat.pow_one]
 ·rfl
 ·rfl
theorem Nog {cfg : Cfg} (hf : cfg.fn 16 = some m16) (hx1 : cfg.ext 40 = some Nlz) (hx2 : cfg.ext 39 = some NbS) {v : PV} {l : List UInt8} (hv : inL v = some l) (hl : l.length + 4 ≤ 140737488355328) {fuel : Nat} (hfu : 6 ≤ fuel) :
 ∃ r st', NaB cfg (fuel + 1) 16 [v] { sto := .leaf, cnt := 1 } = some (r, st') ∧ ∃ q, r = .rsl q 1 0 (NaD l).length ∧ st'.get q = some (.cells (Nab (NaD l)) false) := by
 refine Naw hf ?_
 unfold m16
 have hlv := Nba hv
 have hlr : ∀ (a b c n : Nat), NfG (.rsl a b c n) = some (.i .i64 n) := fun _ _ _ _ => rfl
 have hcl := NlJ l
 have hcc : ∀ (st : St) key, Naf (Nag cfg (NaB cfg fuel) 40) false st key [v] = some (.i .u32 ((crc l : Nat) : Int), st) := by
  intro st key
  refine Nap (by simp only [List.all_cons, Na3 hv, List.all_nil, Bool.and_self]) ?_ rfl
  rw [Nad hx1]
  unfold Nlz
  simp only [hv]
  rw [if_pos (by omega)]
 have hsb : NaD l = Nd6 l (crc l) 4 := by
  show l ++ be4 (crc l) = l ++ (List.replicate 0 0 ++ (be4 (crc l)).drop 0)
  rfl
 have hp0 : l ++ [0, 0, 0, 0] = Nd6 l (crc l) 0 := rfl
 rw [hsb]
 generalize crc l = s at *
 have hpl : ∀ j, j ≤ 4 → (Nd6 l s j).length = l.length + 4 := fun j hj => Nmv l s j hj
 have hps : ∀ j, j < 4 → (Nd6 l s j).set (l.length + (3 - j)) (UInt8.ofNat (s / 256 ^ j % 256)) = Nd6 l s (j + 1) := fun j hj => Nln l s j hj
 have hca : ∀ (S : St) (key key2 : Nat), Naf (Nag cfg (NaB cfg fuel) 39) false (S.put key (some (.cells [.i .u8 (Int.ofNat 0), .i .u8 (Int.ofNat 0), .i .u8 (Int.ofNat 0), .i .u8 (Int.ofNat 0)] false))) key2 [v, .rsl key 1 0 4] = some (.rsl key2 1 0 (Nd6 l s 0).length, (S.put key (some (.cells [.i .u8 (Int.ofNat 0), .i .u8 (Int.ofNat 0), .i .u8 (Int.ofNat 0), .i .u8 (Int.ofNat 0)] false))).put key2 (some (.cells (Nab (Nd6 l s 0)) false))) := by
  intro S key key2
  rw [← hp0]
  exact NiX hx2 (v' := v) (w' := .fsl 4 (Nab [0, 0, 0, 0])) (Neo (Ncn hv) (Nej (m := [0, 0, 0, 0]) (St.get_putk S key _))) hv (NbD [0, 0, 0, 0]) (by show l.length + 4 ≤ _; omega)
 have hp4 := hpl 0 (by omega)
 rw [hp4] at hca
 obtain ⟨P, hP⟩ : ∃ P, Nd6 l s = P := ⟨_, rfl⟩
 simp only [hP] at hpl hps hca ⊢
 refine Za (fun x => x.env.get 0 = v) ?_ ?_
 ·simp only [↓Z0, ↓Xp, ↓Xt, Xq, Xc, Nac, Naa, Nat.reduceAdd, Nat.reduceMul, Nat.reduceLT, Nat.reduceEqDiff, reduceIte, Xm, Nat.reduceLeDiff, Nae]
  (repeat' (first | exact True.intro | rfl | assumption | omega | apply And.intro | exact St.get_putk _ _ _ | refine ⟨_, rfl, ?_⟩))
 rintro ⟨env, ⟨sto, c⟩⟩ g0
 simp only at g0
 obtain ⟨q, hq⟩ : ∃ q, q = c + 16 := ⟨_, rfl⟩
 have hq' : c + 16 = q := hq.symm
 refine Za (fun x => x.env.get 0 = v ∧ x.env.get 3 = .rsl q 1 0 (l.length + 4) ∧ x.st.get q = some (.cells (Nab (P 0)) false)) ?_ ?_
 ·simp only [↓Z0, ↓Xp, ↓Xt, Xq, Xc, Nac, Naa, Nat.reduceAdd, Nat.reduceMul, Nat.reduceLT, Nat.reduceEqDiff, reduceIte, Xm, Nat.reduceLeDiff, g0, hca, hq']
  (repeat' (first | exact True.intro | rfl | assumption | omega | apply And.intro | exact St.get_putk _ _ _ | refine ⟨_, rfl, ?_⟩))
 clear g0
 rintro ⟨env, ⟨sto, c⟩⟩ ⟨g0, g3, kq⟩
 simp only at g0 g3 kq
 replace kq : ∀ n, St.get ⟨sto, n⟩ q = some (.cells (Nab (P 0)) false) := fun _ => kq
 clear hq hq'
 refine Za (fun x => x.env.get 0 = v ∧ x.env.get 3 = .rsl q 1 0 (l.length + 4) ∧ x.st.get q = some (.cells (Nab (P 0)) false) ∧ x.env.get 4 = .i .u32 (s : Int)) ?_ ?_
 ·simp only [↓Z0, ↓Xp, ↓Xt, Xq, Xc, Nac, Naa, Nat.reduceAdd, Nat.reduceMul, Nat.reduceLT, Nat.reduceEqDiff, reduceIte, Xm, Nat.reduceLeDiff, g0, g3, kq, hcc]
  (repeat' (first | exact True.intro | rfl | assumption | omega | apply And.intro | exact St.get_putk _ _ _ | refine ⟨_, rfl, ?_⟩))
 clear g0 g3 kq
 rintro ⟨env, ⟨sto, c⟩⟩ ⟨g0, g3, kq, g4⟩
 simp only at g0 g3 kq g4
 replace kq : ∀ n, St.get ⟨sto, n⟩ q = some (.cells (Nab (P 0)) false) := fun _ => kq
 refine Za (fun x => x.env.get 3 = .rsl q 1 0 (l.length + 4) ∧ x.st.get q = some (.cells (Nab (P 4)) false)) ?_ ?_
 ·have w1 : IntKind.i64.wrap (((l.length + 4 : Nat) : Int) - Int.ofNat 1) = ((l.length + 4 : Nat) : Int) - 1 := NaK _ ⟨by show _ ≤ ((l.length + 4 : Nat) : Int) - 1; omega, by show ((l.length + 4 : Nat) : Int) - 1 < _; omega⟩
  rw [Z0]
  simp only [↓Xp, ↓Xt, Xq, Xc, Nac, Naa, Nat.reduceAdd, Nat.reduceMul, Nat.reduceLT, Nat.reduceEqDiff, reduceIte, g0, g3, kq, g4, hlr, w1]
  refine Z9 (k := 4 - 0) (fun d x => ∃ j : Nat, j ≤ 4 ∧ d = 4 - j ∧ x.env.get 0 = v ∧ x.env.get 3 = .rsl q 1 0 (l.length + 4) ∧ x.env.get 4 = .i .u32 ((s / 256 ^ j : Nat) : Int) ∧ x.env.get 5 = .i .i64 (((l.length + 4 - j : Nat) : Int) - 1) ∧ x.st.get q = some (.cells (Nab (P j)) false)) ?_ ?_ (by omega)
  ·skip
   clear g0 g3 kq g4
   clear w1
   rintro d ⟨env, ⟨sto, c⟩⟩ ⟨j, hj, rfl, g0, g3, g4, g5, kq⟩
   simp only at g0 g3 g4 g5 kq
   have hlj := hpl j hj
   by_cases hlt : j < 4
   ·obtain ⟨i, hi⟩ : ∃ i, l.length + (3 - j) = i := ⟨_, rfl⟩
    have g5' : env.get 5 = .i .i64 (i : Int) := by rw [g5]; congr 1; omega
    clear g5
    have e1 : (i : Int) ≥ (l.length : Int) := by omega
    have wd : IntKind.i64.wrap ((i : Int) - Int.ofNat 1) = (i : Int) - 1 := NaK _ ⟨by show _ ≤ (i : Int) - 1; omega, by show (i : Int) - 1 < _; omega⟩
    have h256 : ¬ (Int.ofNat 256 = 0) := by decide
    have hs := hps j hlt
    rw [hi] at hs
    have hsj : s / 256 ^ j / 256 = s / 256 ^ (j + 1) := by rw [Nat.pow_succ, Nat.div_div_eq_div_mul]
    have hs32 : s / 256 ^ j < 4294967296 := Nat.lt_of_le_of_lt (Nat.div_le_self _ _) hcl
    generalize s / 256 ^ j = u at *
    obtain ⟨u2, hu2⟩ : ∃ u2, s / 256 ^ (j + 1) = u2 := ⟨_, rfl⟩
    rw [hu2] at hsj
    have hrem : (u : Int).tmod (Int.ofNat 256) = ((u % 256 : Nat) : Int) := rfl
    have hquo : (u : Int).tdiv (Int.ofNat 256) = (u2 : Int) := by rw [← hsj]; rfl
    have wq : IntKind.u32.wrap (u2 : Int) = (u2 : Int) := Neg _ ⟨by omega, by omega⟩
    have w8 := NoD (u % 256)
    have h0i : 0 ≤ (i : Int) := by omega
    have hil : (i : Int) < ((l.length + 4 : Nat) : Int) := by omega
    have hsto := fun n => Nc9 (st := ⟨sto, n⟩) kq (i := i) (by omega) (UInt8.ofNat (u % 256))
    rw [hs] at hsto
    simp only [↓Z0, ↓Xp, ↓Xt, Xq, Xc, Nac, Naa, Nat.reduceAdd, Nat.reduceMul, Nat.reduceLT, Nat.reduceEqDiff, reduceIte, g0, g3, g4, g5', hlv, e1, h256, hrem, hquo, wq, w8, h0i, hil, hsto, wd]
    refine ⟨4 - (j + 1), by omega, j + 1, by omega, rfl, ?_⟩
    have e5 : (i : Int) - 1 = ((l.length + 4 - (j + 1) : Nat) : Int) - 1 := by omega
    simp only [e5, hu2]
    (repeat' (first | exact True.intro | rfl | assumption | omega | apply And.intro | exact St.get_putk _ _ _ | refine ⟨_, rfl, ?_⟩))
   ·have hj4 : j = 4 := by omega
    subst hj4
    have g5' : env.get 5 = .i .i64 ((l.length : Int) - 1) := g5
    have e1 : ¬ ((l.length : Int) - 1 ≥ (l.length : Int)) := by omega
    simp only [↓Z0, ↓Xp, ↓Xt, Xq, Xc, Nac, Naa, Nat.reduceAdd, Nat.reduceMul, Nat.reduceLT, Nat.reduceEqDiff, reduceIte, g0, g3, g4, g5', hlv, e1]
    (repeat' (first | exact True.intro | rfl | assumption | omega | apply And.intro))
  ·refine ⟨0, Nat.zero_le _, rfl, ?_⟩
   simp only [Env.get_put, Nat.reduceEqDiff, if_false, if_true, g0, g3, kq, g4, Nat.pow_zero, Nat.div_one, Nat.sub_zero]
   (repeat' (first | exact True.intro | rfl | assumption | omega | apply And.intro | exact St.get_putk _ _ _ | (simp only [Z0L_, Nb2]; omega) | (simp (disch := omega) only [NkR, Z0I_, Nh3, kq]; done) | refine ⟨_, rfl, ?_⟩))
 rintro ⟨env, st1⟩ ⟨g3, kq⟩
 simp only at g3 kq
 simp only [↓Z0, ↓Xp, ↓Xt, Xq, Xc, Nac, Naa, Nat.reduceAdd, Nat.reduceMul, Nat.reduceLT, Nat.reduceEqDiff, reduceIte, g3]
 refine ⟨nofun, _, rfl, q, ?_, kq⟩
 simp only [Naz, ↓Z0, ↓Xp, ↓Xt, Xq, Xc, Nac, Naa, Nat.reduceAdd, Nat.reduceMul, Nat.reduceLT, Nat.reduceEqDiff, reduceIte, hpl 4 (Nat.le_refl _)]
def gRSeal : List PV → Option PV
 | [v] => match inL v with
   | some l => if l.length + 4 ≤ 140737488355328 then some (.osl 1 (NaD l).length (Nab (NaD l))) else none
   | none => none
 | _ => none
theorem NdA (args : List PV) (r : PV) (h : gRSeal args = some r) : ∃ fuel, evP cfgR4 fuel 16 args = some r := by
 unfold gRSeal at h
 split at h
 ·rename_i v
  split at h
  ·rename_i l hl
   split at h
   ·rename_i hc
    simp only [Sj] at h
    subst h
    obtain ⟨r, st', h1, q, h2, h3⟩ := Nog (cfg := cfgR4) (by kernel_rfl) (by kernel_rfl) (by kernel_rfl) hl hc (fuel := 6) (Nat.le_refl _)
    exact ⟨6 + 1, Na2 (by kernel_rfl) (NaH hl) ⟨r, st', h1, by rw [h2]; exact NaX h3⟩⟩
   ·simp at h
  ·simp at h
 ·simp at h
end Go.Pe
set_option linter.unusedVariables false
set_option linter.unusedSimpArgs false
namespace Go.Pe
open Go Go.Am Go.RowKit

theorem Nj7 {l : List UInt8} {a k : Nat} (ha : a ≤ l.length) (hk1 : 1 ≤ k) (hk : k ≤ (l.drop a).length) (h : Ndl ((l.drop a).take k) = true) : Nax l (a : Int) = (weighsN ((l.drop a).take k), ((a + k : Nat) : Int), 0) := by
 have hp := Nie hk h
 unfold Nax
 rw [if_neg (by omega), Int.toNat_natCast, hp]
 simp only []
 rw [if_neg (by omega), if_neg (by omega)]
 rfl
theorem Nkr {r : List UInt8} {k : Nat} (hk : 10 < k ∨ r.length < k) (h : ∀ j, 1 ≤ j → j < k → Ndl (r.take j) = false) : (Na9 r).2 ≤ 0 := by
 rcases Int.lt_or_le 0 (Na9 r).2 with h0 | h0
 ·exfalso
  obtain ⟨j, _, h1, h2, h3, h4, _⟩ := NiF (r := r) (v := (Na9 r).1) (j := (Na9 r).2) rfl h0
  rw [h j h1 (by omega)] at h4
  cases h4
 ·exact h0
theorem Nlw {l : List UInt8} {a : Nat} (ha : a ≤ l.length) (h : (Na9 (l.drop a)).2 ≤ 0) : Nax l (a : Int) = (0, 0, if decide ((l.drop a).length + 1 ≤ 10) && Ndl (l.drop a ++ [1]) then 11 else 10) := by
 unfold Nax
 rw [if_neg (by omega), Int.toNat_natCast, NiA h]
 by_cases h0 : (Na9 (l.drop a)).2 = 0
 ·rw [if_pos h0, decide_eq_true h0]; rfl
 ·rw [if_neg h0, if_pos (by omega), decide_eq_false h0]; rfl
theorem NdU (S : St) (key : Nat) (L : List UInt8) : cellsOf (S.put key (some (.cells (Nab L) false))) 1 (.rsl key 1 0 L.length) = some (L.length, Nab L) := NgC (St.get_putk _ _ _)
theorem Ndb (st : St) (key : Nat) (L : List UInt8) : NaC st key (.osl 1 L.length (Nab L)) = some (.rsl key 1 0 L.length, st.put key (some (.cells (Nab L) false))) := rfl
theorem NoA (st : St) (key : Nat) (k : IntKind) (n : Int) : NaC st key (.i k n) = some (.i k n, st) := rfl
theorem Ni5 (k : IntKind) (n : Int) : (PV.i k n).closedB = true := rfl
theorem Nnr {cfg : Cfg} (hf : cfg.fn 76 = some m76) (hx1 : cfg.ext 35 = some Nd5) (hx2 : cfg.ext 39 = some NbS) (hx3 : cfg.ext 85 = some Ndg) {v : PV} {l : List UInt8} (hv : inL v = some l) (hl : l.length ≤ 140737488355327) {a : Int} {fuel : Nat} (hfu : 12 ≤ fuel) :
 ∃ r st', NaB cfg (fuel + 1) 76 [v, .i .i64 a] { sto := .leaf, cnt := 1 } = some (r, st') ∧ r = Nil (Nax l a) := by
 refine Naw hf ?_
 unfold m76
 have hlv := Nba hv
 by_cases h1 : a < 0
 ·have e1 : a < Int.ofNat 0 := h1
  have hg : Nax l a = (0, 0, 2) := by unfold Nax; rw [if_pos (.inl h1)]
  simp only [Nae, ↓Z0, ↓Xp, ↓Xt, Xq, Xc, Nac, Naa, Nat.reduceAdd, Nat.reduceMul, Nat.reduceLT, Nat.reduceEqDiff, reduceIte, e1]
  refine ⟨nofun, _, rfl, ?_⟩
  rw [hg]
  simp only [Naz, ↓Z0, ↓Xp, ↓Xt, Xq, Xc, Nac, Naa, Nat.reduceAdd, Nat.reduceMul, Nat.reduceLT, Nat.reduceEqDiff, reduceIte]
  rfl
 have e1 : ¬ a < Int.ofNat 0 := h1
 by_cases h2 : (l.length : Int) < a
 ·have e2 : a > (l.length : Int) := h2
  have hg : Nax l a = (0, 0, 2) := by unfold Nax; rw [if_pos (.inr h2)]
  simp only [Nae, ↓Z0, ↓Xp, ↓Xt, Xq, Xc, Nac, Naa, Nat.reduceAdd, Nat.reduceMul, Nat.reduceLT, Nat.reduceEqDiff, reduceIte, e1, e2, hlv]
  refine ⟨nofun, _, rfl, ?_⟩
  rw [hg]
  simp only [Naz, ↓Z0, ↓Xp, ↓Xt, Xq, Xc, Nac, Naa, Nat.reduceAdd, Nat.reduceMul, Nat.reduceLT, Nat.reduceEqDiff, reduceIte]
  rfl
 have e2 : ¬ a > (l.length : Int) := h2
 obtain ⟨at0, rfl⟩ : ∃ n : Nat, a = (n : Int) := ⟨a.toNat, by omega⟩
 have ha : at0 ≤ l.length := by omega
 obtain ⟨v2, hsl, hv2⟩ := NgE hv ha
 have hfound := fun k h1 h2 h3 => Nj7 (k := k) ha h1 h2 h3
 have hnone := Nlw (l := l) ha
 have hrl : (l.drop at0).length ≤ 140737488355327 := by rw [List.length_drop]; omega
 have hak : ∀ k, k ≤ (l.drop at0).length → at0 + k ≤ l.length := by intro k hk; rw [List.length_drop] at hk; omega
 generalize l.drop at0 = r at *
 generalize Nax l (at0 : Int) = G at *
 have hlr := Nba hv2
 have hlrr : ∀ (a b c n : Nat), NfG (.rsl a b c n) = some (.i .i64 n) := fun _ _ _ _ => rfl
 have hcw : ∀ (L : List UInt8) (w : PV) (st : St) key, inL w = some L → Naf (Nag cfg (NaB cfg fuel) 85) false st key [w] = some (.i .u64 (weighsN L), st) := by
  intro L w st key hw
  refine Nap (by simp only [List.all_cons, Na3 hw, List.all_nil, Bool.and_self]) ?_ rfl
  rw [Nad hx3]
  unfold Ndg
  simp only [hw]
 have hqv : ∀ n : Nat, n < 18446744073709551616 → Nag cfg (NaB cfg fuel) 35 [.i .u64 (n : Int)] = some (.osl 1 (Nah n).length (Nab (Nah n))) := by
  intro n hn
  rw [Nad hx1]
  unfold Nd5
  simp only [Int.toNat_natCast]
  rw [if_pos ⟨by omega, by omega⟩]
 have hqw : ∀ L : List UInt8, Nag cfg (NaB cfg fuel) 85 [.fsl L.length (Nab L)] = some (.i .u64 (weighsN L)) := by
  intro L
  rw [Nad hx3]
  unfold Ndg
  simp only [NbD]
 have hd1 : ∀ (st : St) (n : Int), NaU st [.i .u64 n] = some [.i .u64 n] := fun st n => Nes (Ndx _ _ _)
 refine Za (fun x => x.env.get 0 = v ∧ x.env.get 1 = .i .i64 (at0 : Int)) ?_ ?_
 ·simp only [↓Z0, ↓Xp, ↓Xt, Xq, Xc, Nac, Naa, Nat.reduceAdd, Nat.reduceMul, Nat.reduceLT, Nat.reduceEqDiff, reduceIte, Xm, Nat.reduceLeDiff, Nae]
  (repeat' (first | exact True.intro | rfl | assumption | omega | apply And.intro | exact St.get_putk _ _ _ | refine ⟨_, rfl, ?_⟩))
 rintro ⟨env, ⟨sto, c⟩⟩ ⟨g0, g1⟩
 simp only at g0 g1
 refine Za (fun x => x.env.get 0 = v ∧ x.env.get 1 = .i .i64 (at0 : Int)) ?_ ?_
 ·simp only [↓Z0, ↓Xp, ↓Xt, Xq, Xc, Nac, Naa, Nat.reduceAdd, Nat.reduceMul, Nat.reduceLT, Nat.reduceEqDiff, reduceIte, Xm, Nat.reduceLeDiff, g0, g1, e1, e2, hlv]
  (repeat' (first | exact True.intro | rfl | assumption | omega | apply And.intro | exact St.get_putk _ _ _ | refine ⟨_, rfl, ?_⟩))
 clear g0 g1
 rintro ⟨env, ⟨sto, c⟩⟩ ⟨g0, g1⟩
 simp only at g0 g1
 refine Za (fun x => x.env.get 0 = v ∧ x.env.get 1 = .i .i64 (at0 : Int) ∧ x.env.get 7 = v2) ?_ ?_
 ·simp only [↓Z0, ↓Xp, ↓Xt, Xq, Xc, Nac, Naa, Nat.reduceAdd, Nat.reduceMul, Nat.reduceLT, Nat.reduceEqDiff, reduceIte, Xm, Nat.reduceLeDiff, g0, g1, hsl]
  (repeat' (first | exact True.intro | rfl | assumption | omega | apply And.intro | exact St.get_putk _ _ _ | refine ⟨_, rfl, ?_⟩))
 clear g0 g1
 rintro ⟨env, ⟨sto, c⟩⟩ ⟨g0, g1, g7⟩
 simp only at g0 g1 g7
 -- the search
 refine Nec (fun x => x.env.get 7 = v2 ∧ (Na9 r).2 ≤ 0) ?_ ?_
 ·rw [Z0]
  simp only [↓Xp, ↓Xt, Xq, Xc, Nac, Naa, Nat.reduceAdd, Nat.reduceMul, Nat.reduceLT, Nat.reduceEqDiff, reduceIte, g0, g1, g7]
  refine Z9 (k := 11 - 1) (fun d x => ∃ k : Nat, 1 ≤ k ∧ k ≤ 11 ∧ d = 11 - k ∧ (∀ j, 1 ≤ j → j < k → Ndl (r.take j) = false) ∧ x.env.get 1 = .i .i64 (at0 : Int) ∧ x.env.get 7 = v2 ∧ x.env.get 8 = .i .i64 (k : Int)) ?_ ?_ (by omega)
  ·skip
   clear g0 g1 g7
   rintro d ⟨env, ⟨sto, c⟩⟩ ⟨k, hk1, hk11, rfl, hall, g1, g7, g8⟩
   simp only at g1 g7 g8
   by_cases hk : k ≤ 10 ∧ k ≤ r.length
   ·have e3 : (k : Int) ≤ Int.ofNat 10 := by show (k : Int) ≤ 10; omega
    have e4 : (k : Int) ≤ (r.length : Int) := by omega
    have hr0 : r ≠ [] := by intro e; rw [e] at hk; simp at hk; omega
    have hup := Nib hv2 hk.2 hr0
    have hin := NiU (l := r) hk.2
    have hcw1 := fun st key => hcw _ _ st key hin
    have hcin := fun st => NbA (st := st) hin
    obtain ⟨T, hT⟩ : ∃ T, r.take k = T := ⟨_, rfl⟩
    have hTl : T.length = k := by rw [← hT, List.length_take]; omega
    have hfk := hfound k hk1 hk.2
    rw [hT] at hup hcin hfk
    simp only [hT] at hcw1
    have hwl := Ncv T
    have hqv1 := hqv _ hwl
    have hco := Nbc (Nah (weighsN T)).length (Nah (weighsN T))
    refine Za (fun x => x.env.get 1 = .i .i64 (at0 : Int) ∧ x.env.get 7 = v2 ∧ x.env.get 8 = .i .i64 (k : Int)) ?_ ?_
    ·simp only [↓Z0, ↓Xp, ↓Xt, Xq, Xc, Nac, Naa, Nat.reduceAdd, Nat.reduceMul, Nat.reduceLT, Nat.reduceEqDiff, reduceIte, Xm, Nat.reduceLeDiff, g1, g7, g8, e3, e4, hlr]
     (repeat' (first | exact True.intro | rfl | assumption | omega | apply And.intro | exact St.get_putk _ _ _ | refine ⟨_, rfl, ?_⟩))
    clear g1 g7 g8
    rintro ⟨env, ⟨sto, c⟩⟩ ⟨g1, g7, g8⟩
    simp only at g1 g7 g8
    rw [Z0]
    simp only [↓Xp, ↓Xt, Xq, Xc, Nac, Naa, Nat.reduceAdd, Nat.reduceMul, Nat.reduceLT, Nat.reduceEqDiff, reduceIte]
    refine Za (fun x => x.env.get 1 = .i .i64 (at0 : Int) ∧ x.env.get 7 = v2 ∧ x.env.get 8 = .i .i64 (k : Int) ∧ x.env.get 9 = .i .u64 (weighsN T : Int)) ?_ ?_
    ·simp only [↓Z0, ↓Xp, ↓Xt, Xq, Xc, Nac, Naa, Nat.reduceAdd, Nat.reduceMul, Nat.reduceLT, Nat.reduceEqDiff, reduceIte, Xm, Nat.reduceLeDiff, g1, g7, g8, hup, hcw1]
     (repeat' (first | exact True.intro | rfl | assumption | omega | apply And.intro | exact St.get_putk _ _ _ | refine ⟨_, rfl, ?_⟩))
    clear g1 g7 g8
    rintro ⟨env, ⟨sto, c⟩⟩ ⟨g1, g7, g8, g9⟩
    simp only at g1 g7 g8 g9
    by_cases hnum : Ndl T = true
    ·have e5 : (Nah (weighsN T) == T) = true := hnum
     have wk : IntKind.i64.wrap ((at0 : Int) + (k : Int)) = ((at0 + k : Nat) : Int) := by
      have := hak k hk.2
      rw [NaK _ ⟨by omega, by omega⟩]; rfl
     have hG := hfk hnum
     simp only [↓Z0, ↓Xp, ↓Xt, Xq, Xc, Nac, Naa, Nat.reduceAdd, Nat.reduceMul, Nat.reduceLT, Nat.reduceEqDiff, reduceIte, g1, g7, g8, g9, hd1, hqv1, hco, Ndb, NdU, NaW, hup, hcin, e5, wk]
     refine ⟨nofun, _, rfl, ?_⟩
     rw [hG]
     simp only [Naz, ↓Z0, ↓Xp, ↓Xt, Xq, Xc, Nac, Naa, Nat.reduceAdd, Nat.reduceMul, Nat.reduceLT, Nat.reduceEqDiff, reduceIte]
     rfl
    ·have e5 : (Nah (weighsN T) == T) = false := by simpa [Ndl] using hnum
     have wk : IntKind.i64.wrap ((k : Int) + Int.ofNat 1) = ((k + 1 : Nat) : Int) := by
      rw [NaK _ ⟨by show _ ≤ (k : Int) + 1; omega, by show (k : Int) + 1 < _; omega⟩]; rfl
     simp only [↓Z0, ↓Xp, ↓Xt, Xq, Xc, Nac, Naa, Nat.reduceAdd, Nat.reduceMul, Nat.reduceLT, Nat.reduceEqDiff, reduceIte, g1, g7, g8, g9, hd1, hqv1, hco, Ndb, NdU, NaW, hup, hcin, e5, wk]
     refine ⟨11 - (k + 1), by omega, k + 1, by omega, by omega, rfl, ?_, ?_⟩
     ·intro j hj1 hj2
      rcases Nat.lt_or_ge j k with h | h
      ·exact hall j hj1 h
      ·rw [show j = k by omega, hT]; simpa using hnum
     ·(repeat' (first | exact True.intro | rfl | assumption | omega | apply And.intro))
   ·skip
    have hno := Nkr (r := r) (k := k) (by omega) hall
    by_cases h10 : k ≤ 10
    ·have e3 : (k : Int) ≤ Int.ofNat 10 := by show (k : Int) ≤ 10; omega
     have e4 : ¬ (k : Int) ≤ (r.length : Int) := by omega
     simp only [↓Z0, ↓Xp, ↓Xt, Xq, Xc, Nac, Naa, Nat.reduceAdd, Nat.reduceMul, Nat.reduceLT, Nat.reduceEqDiff, reduceIte, g1, g7, g8, e3, e4, hlr]
     (repeat' (first | exact True.intro | rfl | assumption | omega | apply And.intro))
    ·have e3 : ¬ (k : Int) ≤ Int.ofNat 10 := by show ¬ (k : Int) ≤ 10; omega
     simp only [↓Z0, ↓Xp, ↓Xt, Xq, Xc, Nac, Naa, Nat.reduceAdd, Nat.reduceMul, Nat.reduceLT, Nat.reduceEqDiff, reduceIte, g1, g7, g8, e3]
     (repeat' (first | exact True.intro | rfl | assumption | omega | apply And.intro))
  ·refine ⟨1, Nat.le_refl _, by omega, rfl, fun j h1 h2 => by omega, ?_⟩
   simp only [Env.get_put, Nat.reduceEqDiff, if_false, if_true, g0, g1, g7]
   (repeat' (first | exact True.intro | rfl | assumption | omega | apply And.intro))
 clear g0 g1 g7
 rintro ⟨env, ⟨sto, c⟩⟩ ⟨g7, hno⟩
 simp only at g7
 have hG := hnone hno
 obtain ⟨B, hB⟩ : ∃ B, r ++ [1] = B := ⟨_, rfl⟩
 have hBl : B.length = r.length + 1 := by rw [← hB]; simp
 have hca : ∀ (S : St) (key key2 : Nat), Naf (Nag cfg (NaB cfg fuel) 39) false (S.put key (some (.cells [.i .u8 (Int.ofNat 1)] false))) key2 [v2, .rsl key 1 0 1] = some (.rsl key2 1 0 B.length, (S.put key (some (.cells [.i .u8 (Int.ofNat 1)] false))).put key2 (some (.cells (Nab B) false))) := by
  intro S key key2
  rw [← hB]
  exact NiX hx2 (v' := v2) (w' := .fsl 1 (Nab [1])) (Neo (Ncn hv2) (Nej (m := [1]) (St.get_putk S key _))) hv2 (NbD [1]) (by show r.length + 1 ≤ _; omega)
 obtain ⟨q, hq⟩ : ∃ q, q = c + 16 := ⟨_, rfl⟩
 have hq' : c + 16 = q := hq.symm
 rw [hB] at hG
 rw [← hBl] at hG
 refine Za (fun x => x.env.get 10 = .rsl q 1 0 B.length ∧ x.st.get q = some (.cells (Nab B) false) ∧ (q < x.st.cnt)) ?_ ?_
 ·simp only [↓Z0, ↓Xp, ↓Xt, Xq, Xc, Nac, Naa, Nat.reduceAdd, Nat.reduceMul, Nat.reduceLT, Nat.reduceEqDiff, reduceIte, Xm, Nat.reduceLeDiff, g7, hca, hq']
  (repeat' (first | exact True.intro | rfl | assumption | omega | apply And.intro | exact St.get_putk _ _ _ | refine ⟨_, rfl, ?_⟩))
 clear g7
 rintro ⟨env, ⟨sto, c⟩⟩ ⟨g10, kq, hqc⟩
 simp only at g10 kq hqc
 replace kq : ∀ n, St.get ⟨sto, n⟩ q = some (.cells (Nab B) false) := fun _ => kq
 have hwl := Ncv B
 have hqv1 := hqv _ hwl
 have hco := Nbc (Nah (weighsN B)).length (Nah (weighsN B))
 have hdq : ∀ n, NaU ⟨sto, n⟩ [.rsl q 1 0 B.length] = some [.fsl B.length (Nab B)] := fun n => Nes (Nej (kq n))
 have hcq : ∀ (n key : Nat) (o : Option PObj), q < key → cellsOf ((⟨sto, n⟩ : St).put key o) 1 (.rsl q 1 0 B.length) = some (B.length, Nab B) := by
  intro n key o hk
  refine NgC (fz := false) ?_
  rw [St.get_put_ne (by omega)]
  exact kq n
 have hqj : ∀ j, q < c + j := fun j => by omega
 have hqw1 := hqw B
 by_cases h10 : B.length ≤ 10
 ·have e3 : (B.length : Int) ≤ Int.ofNat 10 := by show (B.length : Int) ≤ 10; omega
  rw [decide_eq_true h10, Bool.true_and] at hG
  by_cases hnum : Ndl B = true
  ·have e5 : (Nah (weighsN B) == B) = true := hnum
   rw [if_pos hnum] at hG
   simp only [↓Z0, ↓Xp, ↓Xt, Xq, Xc, Nac, Naa, Nat.reduceAdd, Nat.reduceMul, Nat.reduceLT, Nat.reduceEqDiff, reduceIte, g10, kq, hlrr, e3, hdq, hqw1, Ni5, NoA, hd1, hqv1, hco, Ndb, NdU, NaW, hcq, hqj, e5]
   refine ⟨nofun, _, rfl, ?_⟩
   rw [hG]
   simp only [Naz, ↓Z0, ↓Xp, ↓Xt, Xq, Xc, Nac, Naa, Nat.reduceAdd, Nat.reduceMul, Nat.reduceLT, Nat.reduceEqDiff, reduceIte]
   rfl
  ·have e5 : (Nah (weighsN B) == B) = false := by simpa [Ndl] using hnum
   rw [if_neg hnum] at hG
   simp only [↓Z0, ↓Xp, ↓Xt, Xq, Xc, Nac, Naa, Nat.reduceAdd, Nat.reduceMul, Nat.reduceLT, Nat.reduceEqDiff, reduceIte, g10, kq, hlrr, e3, hdq, hqw1, Ni5, NoA, hd1, hqv1, hco, Ndb, NdU, NaW, hcq, hqj, e5]
   refine ⟨nofun, _, rfl, ?_⟩
   rw [hG]
   simp only [Naz, ↓Z0, ↓Xp, ↓Xt, Xq, Xc, Nac, Naa, Nat.reduceAdd, Nat.reduceMul, Nat.reduceLT, Nat.reduceEqDiff, reduceIte]
   rfl
 ·have e3 : ¬ (B.length : Int) ≤ Int.ofNat 10 := by show ¬ (B.length : Int) ≤ 10; omega
  rw [decide_eq_false h10, Bool.false_and] at hG
  simp only [↓Z0, ↓Xp, ↓Xt, Xq, Xc, Nac, Naa, Nat.reduceAdd, Nat.reduceMul, Nat.reduceLT, Nat.reduceEqDiff, reduceIte, g10, kq, hlrr, e3]
  refine ⟨nofun, _, rfl, ?_⟩
  rw [hG]
  simp only [Naz, ↓Z0, ↓Xp, ↓Xt, Xq, Xc, Nac, Naa, Nat.reduceAdd, Nat.reduceMul, Nat.reduceLT, Nat.reduceEqDiff, reduceIte]
  rfl
def Nce : List PV → Option PV
 | [v, .i .i64 a] => match inL v with
   | some l => if l.length ≤ 140737488355327 then some (Nil (Nax l a)) else none
   | none => none
 | _ => none
theorem NiB (st : St) (p : Nat × Int × Int) : Naq st (Nil p) = some (Nil p) := Nal (vs := [.i .u64 (p.1 : Int), .i .i64 p.2.1, .i .i64 p.2.2]) rfl
theorem NhV (st : St) (p : Int × Int × Int) : Naq st (Neu p) = some (Neu p) := Nal (vs := [.i .i64 p.1, .i .i64 p.2.1, .i .i64 p.2.2]) rfl
theorem NdX (args : List PV) (r : PV) (h : Nce args = some r) : ∃ fuel, evP cfgR1 fuel 76 args = some r := by
 unfold Nce at h
 split at h
 ·rename_i v a
  split at h
  ·rename_i l hl
   split at h
   ·rename_i hc
    simp only [Sj] at h
    subst h
    exact ⟨12 + 1, Nbe (by kernel_rfl) (NaH hl) (fun st => NiB st _) (Nnr (cfg := cfgR1) (by kernel_rfl) (by kernel_rfl) (by kernel_rfl) (by kernel_rfl) hl hc (Nat.le_refl _))⟩
   ·simp at h
  ·simp at h
 ·simp at h
def NrM : FuncId → Option (List PV → Option PV) := fun f => if f = 76 then some Nce else none
noncomputable def cfgR5 : Cfg := { fn := fun f => Nbr f tblL, ext := NrM }
theorem NjO {Gl : Gmap} : CfgOK Go.Proofs.Try.prog Gl cfgR5 := by
 refine NaP NaQ ?_
 intro f g h
 unfold NrM at h
 split at h
 ·rename_i e; simp only [Sj] at h; subst h; subst e
  exact Nam NcC NdX
 ·simp at h
theorem Njw {l : List UInt8} {a : Int} (h : (Nax l a).2.2 ≠ 0) : (Nax l a).1 = 0 ∧ (Nax l a).2.1 = 0 := by
 unfold Nax at h ⊢
 split
 ·exact ⟨rfl, rfl⟩
 split
 ·exact ⟨rfl, rfl⟩
 split
 ·exact ⟨rfl, rfl⟩
 ·rename_i h1 h2 h3
  rw [if_neg h1, if_neg h2, if_neg h3] at h
  exact absurd rfl h
theorem Nbx (l : List UInt8) (a : Int) : (Nax l a).1 < 18446744073709551616 := by
 unfold Nax
 split
 ·decide
 split
 ·decide
 split
 ·decide
 ·exact Njl _
def NdY : List PV → Option PV
 | [v, .i .i64 a] => match inL v with
   | some l => if l.length ≤ 140737488355327 then some (Neu (Na5 l a)) else none
   | none => none
 | _ => none
theorem NhA (args : List PV) (r : PV) (h : NdY args = some r) : ∃ fuel, evP cfgR5 fuel 78 args = some r := by
 unfold NdY at h
 split at h
 ·rename_i v a
  split at h
  ·rename_i l hl
   split at h
   ·rename_i hc
    simp only [Sj] at h
    subst h
    refine ⟨0 + 1, Nbe (by kernel_rfl) (NaH hl) (fun st => NhV st _) (Naw (by kernel_rfl : cfgR5.fn 78 = some m78) ?_)⟩
    unfold m78
    have hlb := hc
    have hcu : ∀ (st : St) key, Naf (Nag cfgR5 (NaB cfgR5 0) 76) false st key [v, .i .i64 a] = some (.tup [.i .u64 ((Nax l a).1 : Int), .i .i64 (Nax l a).2.1, .i .i64 (Nax l a).2.2], st) := by
     intro st key
     refine Nap (by simp only [List.all_cons, Na3 hl, List.all_nil, Bool.and_self]; rfl) ?_ rfl
     rw [Nad (by kernel_rfl : cfgR5.ext 76 = some Nce)]
     unfold Nce
     simp only [hl]
     rw [if_pos hlb]; rfl
    have hbad := Njw (l := l) (a := a)
    have hlt := Nbx l a
    have hgi : Na5 l a = if (Nax l a).2.2 = 0 then (NcA (Nax l a).1, (Nax l a).2.1, 0) else (0, 0, (Nax l a).2.2) := rfl
    rw [hgi]
    clear hgi
    generalize Nax l a = G at *
    obtain ⟨n, nx, e⟩ := G
    simp only [] at hcu hbad hlt ⊢
    have h2 : ¬ (Int.ofNat 2 = 0) := by decide
    have hrem : (n : Int).tmod (Int.ofNat 2) = ((n % 2 : Nat) : Int) := rfl
    have hquo : (n : Int).tdiv (Int.ofNat 2) = ((n / 2 : Nat) : Int) := rfl
    have wq : IntKind.u64.wrap ((n / 2 : Nat) : Int) = ((n / 2 : Nat) : Int) := Nbm _ ⟨by omega, by omega⟩
    have wi : IntKind.i64.wrap ((n / 2 : Nat) : Int) = ((n / 2 : Nat) : Int) := NaK _ ⟨by omega, by omega⟩
    by_cases he : e = 0
    ·subst he
     have e0 : ((0 : Int) == Int.ofNat 0) = true := rfl
     rw [if_pos rfl]
     by_cases hod : n % 2 = 1
     ·have e1 : (((n % 2 : Nat) : Int) == Int.ofNat 1) = true := by rw [hod]; rfl
      have ws : IntKind.i64.wrap (Int.negSucc 0 - ((n / 2 : Nat) : Int)) = NcA n := by
       unfold NcA
       rw [if_neg (by omega), NaK _ ⟨by show _ ≤ (-1 : Int) - _; omega, by show (-1 : Int) - _ < _; omega⟩]
       show (-1 : Int) - _ = _
       omega
      simp only [Nae, ↓Z0, ↓Xp, ↓Xt, Xq, Xc, Nac, Naa, Nat.reduceAdd, Nat.reduceMul, Nat.reduceLT, Nat.reduceEqDiff, reduceIte, List.getElem?_cons_zero, List.getElem?_cons_succ, hcu, e0, h2, hrem, hquo, wq, wi, e1, ws]
      refine ⟨nofun, _, rfl, ?_⟩
      simp only [Naz, Neu, ↓Z0, ↓Xp, ↓Xt, Xq, Xc, Nac, Naa, Nat.reduceAdd, Nat.reduceMul, Nat.reduceLT, Nat.reduceEqDiff, reduceIte]
      rfl
     ·have e1 : (((n % 2 : Nat) : Int) == Int.ofNat 1) = false := by rw [show n % 2 = 0 by omega]; rfl
      have ho : NcA n = ((n / 2 : Nat) : Int) := by unfold NcA; rw [if_pos (by omega)]
      simp only [Nae, ↓Z0, ↓Xp, ↓Xt, Xq, Xc, Nac, Naa, Nat.reduceAdd, Nat.reduceMul, Nat.reduceLT, Nat.reduceEqDiff, reduceIte, List.getElem?_cons_zero, List.getElem?_cons_succ, hcu, e0, h2, hrem, hquo, wq, wi, e1]
      refine ⟨nofun, _, rfl, ?_⟩
      simp only [Naz, Neu, ho, ↓Z0, ↓Xp, ↓Xt, Xq, Xc, Nac, Naa, Nat.reduceAdd, Nat.reduceMul, Nat.reduceLT, Nat.reduceEqDiff, reduceIte]
    ·have e0 : (e == Int.ofNat 0) = false := by simpa using he
     rw [if_neg he]
     obtain ⟨hb1, hb2⟩ := hbad he
     subst hb1
     subst hb2
     simp only [Nae, ↓Z0, ↓Xp, ↓Xt, Xq, Xc, Nac, Naa, Nat.reduceAdd, Nat.reduceMul, Nat.reduceLT, Nat.reduceEqDiff, reduceIte, List.getElem?_cons_zero, List.getElem?_cons_succ, hcu, e0, h2, hquo, wq, wi]
     refine ⟨nofun, _, rfl, ?_⟩
     simp only [Naz, Neu, ↓Z0, ↓Xp, ↓Xt, Xq, Xc, Nac, Naa, Nat.reduceAdd, Nat.reduceMul, Nat.reduceLT, Nat.reduceEqDiff, reduceIte]
     rfl
   ·simp at h
  ·simp at h
 ·simp at h
end Go.Pe
