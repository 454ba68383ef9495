/-
 The document's answer for layer 4: Pack, by the interpreter of plain data. No condition.
-/
import Derived.Test.YtogdkhejfkbnmaaRefH
set_option linter.unusedVariables false
set_option linter.unusedSimpArgs false
set_option maxHeartbeats 16000000
set_option maxRecDepth 100000
namespace Go.Pe
open Go Go.Am Go.RowKit

def Ndy (p : Int) : List Int → List Int
 | [] => []
 | v :: r => Ncr p v :: Ndy v r
theorem NfS : ∀ (vs : List Int) (p : Int), (Ndy p vs).length = vs.length
 | [], _ => rfl
 | v :: r, p => by rw [Ndy, List.length_cons, List.length_cons, NfS r v]
theorem Nha : ∀ (vs : List Int) (p : Int) (i : Nat), i < vs.length → (Ndy p vs).getD i 0 = Ncr (if i = 0 then p else vs.getD (i - 1) 0) (vs.getD i 0)
 | [], _, _, h => by simp at h
 | v :: r, p, 0, _ => rfl
 | v :: r, p, i + 1, h => by
   have := Nha r v i (by simpa using h)
   show (Ndy v r).getD i 0 = _
   rw [this]
   cases i with
   | zero => rfl
   | succ i => rfl
def Nhy (more : Int) (run : Nat) : List Int → List UInt8
 | [] => Ncb more run
 | d :: r => if d = more then Nhy more (run + 1) r else Ncb more run ++ Nhy d 1 r
def NpV : List Int → List UInt8
 | [] => []
 | d :: r => Nhy d 1 r
theorem NeW : ∀ (vs : List Int) (prev more : Int) (run : Nat), Nih prev more run vs = Nhy more run (Ndy prev vs)
 | [], _, _, _ => rfl
 | v :: r, prev, more, run => by
   unfold Nih Ndy Nhy
   split
   ·exact NeW r v more (run + 1)
   ·rw [NeW r v _ 1]
theorem NlP (vs : List Int) (p : Int) : Ned p vs = NpV (Ndy p vs) := by
 cases vs with
 | nil => rfl
 | cons v r => exact NeW r v _ 1
theorem NmC {d : Int} {D : List Int} {run i : Nat} (h : i < D.length) (he : D.getD i 0 = d) : Nhy d run (D.drop i) = Nhy d (run + 1) (D.drop (i + 1)) := by
 rw [List.drop_eq_getElem_cons h]
 have : D[i] = d := by simpa [List.getD_eq_getElem?_getD, h] using he
 rw [show Nhy d run (D[i] :: D.drop (i + 1)) = if D[i] = d then Nhy d (run + 1) (D.drop (i + 1)) else Ncb d run ++ Nhy D[i] 1 (D.drop (i + 1)) from rfl, if_pos this]
theorem NhE {d : Int} {D : List Int} {run i : Nat} (h : ¬ (i < D.length ∧ D.getD i 0 = d)) : Nhy d run (D.drop i) = Ncb d run ++ NpV (D.drop i) := by
 by_cases hl : i < D.length
 ·have hne : ¬ D[i] = d := fun e => h ⟨hl, by simpa [List.getD_eq_getElem?_getD, hl] using e⟩
  rw [List.drop_eq_getElem_cons hl]
  unfold Nhy
  rw [if_neg hne]
  rfl
 ·rw [List.drop_eq_nil_of_le (by omega)]
  simp [Nhy, NpV]
theorem NkG (a v : Int) : NcN (Ncr a v) := NlL _
theorem Npo {D : List Int} {i : Nat} (h : i < D.length) : NpV (D.drop i) = Nhy (D.getD i 0) 1 (D.drop (i + 1)) := by
 rw [List.drop_eq_getElem_cons h]
 simp [NpV, List.getD_eq_getElem?_getD, h]
theorem Nmy (xs : List Int) (i : Nat) (h : i < xs.length) : Nb9 (xs.take i) ++ [.i .i64 (xs.getD i 0)] = Nb9 (xs.take (i + 1)) := by
 have : xs.take (i + 1) = xs.take i ++ [xs.getD i 0] := by
  rw [List.take_add_one]
  simp [List.getD_eq_getElem?_getD, h]
 rw [this]
 unfold Nb9
 rw [List.map_append]; rfl
theorem Nfo {st : St} {k : Nat} {fz : Bool} {xs : List Int} (hk : st.get k = some (.cells (Nb9 xs) fz)) {i : Nat} (hi : i < xs.length) : loadP st 1 (.ptr k i) = some [.i .i64 (xs.getD i 0)] := by
 have := Nex hk hi
 rwa [Nat.zero_add, Nat.mul_one] at this
theorem Nri {cfg : Cfg} {callE : CallE} (hx : cfg.ext 48 = some Nko) (st : St) (key : Nat) (e : Ev) {c : Nat} (hc : c < 5) : Naf (Nag cfg callE 48) false st key [.agg (evC e), .i .i64 (c : Int)] = some (.i .i64 (NcL c e), st) := by
 refine Nas (r := .i .i64 (NcL c e)) (NbO (NiZ _ e) rfl) ?_ rfl
 rw [Nad hx]
 have h2 := e.O.toNat_lt
 have h3 : ((e.O.toNat : Int).toNat).toUInt8 = e.O := by
  rw [Int.toNat_natCast, Nat.toUInt8]
  exact UInt8.toNat_inj.1 (by rw [UInt8.toNat_ofNat']; omega)
 unfold Nko evC
 simp only []
 rw [if_pos ⟨by omega, by omega, by omega, by omega⟩, h3, Int.toNat_natCast]
theorem NkJ {n : Nat} {l : List Ev} : (NgV n l).length ≤ 28 + 100 * l.length := by
 have hs : Ne1 n l = amd1 ++ (Nah n ++ (Nah l.length ++ Nb6 l 0)) := by unfold Ne1; simp only [List.append_assoc]
 unfold NgV
 rw [Nb8, hs]
 have h1 := NaY n
 have h2 := NaY l.length
 have h3 := NhI l 0
 have h4 : amd1.length = 4 := rfl
 simp only [List.length_append, h4]
 omega
theorem Nm8 {cfg : Cfg} (hf : cfg.fn 25 = some m25) (hx1 : cfg.ext 17 = some NcV) (hx2 : cfg.ext 35 = some Nd5) (hx3 : cfg.ext 49 = some NgN) (hx4 : cfg.ext 16 = some gRSeal) (hx5 : cfg.ext 48 = some Nko) {first : Int} (hfi : NcN first) {v : PV} {l : List Ev} (hv : NmH v l) (hl : l.length ≤ 140737488355327) {fuel : Nat} (hfu : 1048600 ≤ fuel) :
 ∃ r st', NaB cfg (fuel + 1) 25 [.i .i64 first, v] { sto := .leaf, cnt := 1 } = some (r, st') ∧ Naq st' r = some (Ndn first l) := by
 refine Naw hf ?_
 unfold m25
 have hlv := NeF hv
 unfold Ndn
 by_cases h1 : first < 0
 ·rw [if_pos (.inl h1)]
  simp (disch := first | omega | rfl | assumption) only [Nae, ↓Z0, ↓Xp, ↓Xt, Xq, Xc, Nac, Naa, Nat.reduceAdd, Nat.reduceMul, Nat.reduceLT, Nat.reduceEqDiff, reduceIte, Xm, Nat.reduceLeDiff, Xa, Xn, unP, Nau, Nav, Nao]
  refine ⟨nofun, _, rfl, ?_⟩
  simp only [Naz, ↓Z0, ↓Xp, ↓Xt, Xq, Xc, Nac, Naa, Nat.reduceAdd, Nat.reduceMul, Nat.reduceLT, Nat.reduceEqDiff, reduceIte]
  rfl
 by_cases h2 : 4611686018427387904 < first
 ·rw [if_pos (.inr (.inl h2))]
  simp (disch := first | omega | rfl | assumption) only [Nae, ↓Z0, ↓Xp, ↓Xt, Xq, Xc, Nac, Naa, Nat.reduceAdd, Nat.reduceMul, Nat.reduceLT, Nat.reduceEqDiff, reduceIte, Xm, Nat.reduceLeDiff, Xa, Xn, unP, Nau, Nav, Nao]
  refine ⟨nofun, _, rfl, ?_⟩
  simp only [Naz, ↓Z0, ↓Xp, ↓Xt, Xq, Xc, Nac, Naa, Nat.reduceAdd, Nat.reduceMul, Nat.reduceLT, Nat.reduceEqDiff, reduceIte]
  rfl
 by_cases h3 : l = []
 ·rw [if_pos (.inr (.inr h3))]
  subst h3
  simp only [List.length_nil] at hlv
  simp (disch := first | omega | rfl | assumption) only [Nae, ↓Z0, ↓Xp, ↓Xt, Xq, Xc, Nac, Naa, Nat.reduceAdd, Nat.reduceMul, Nat.reduceLT, Nat.reduceEqDiff, reduceIte, Xm, Nat.reduceLeDiff, Xa, Xn, unP, Nau, Nav, Nao, hlv]
  refine ⟨nofun, _, rfl, ?_⟩
  simp only [Naz, ↓Z0, ↓Xp, ↓Xt, Xq, Xc, Nac, Naa, Nat.reduceAdd, Nat.reduceMul, Nat.reduceLT, Nat.reduceEqDiff, reduceIte]
  rfl
 have hpos := List.length_pos_iff.mpr h3
 rw [if_neg (by simp only [not_or]; exact ⟨h1, h2, h3⟩)]
 by_cases h4 : 1048576 < l.length
 ·rw [if_pos h4]
  simp (disch := first | omega | rfl | assumption) only [Nae, ↓Z0, ↓Xp, ↓Xt, Xq, Xc, Nac, Naa, Nat.reduceAdd, Nat.reduceMul, Nat.reduceLT, Nat.reduceEqDiff, reduceIte, Xm, Nat.reduceLeDiff, Xa, Xn, unP, Nau, Nav, Nao, hlv]
  refine ⟨nofun, _, rfl, ?_⟩
  simp only [Naz, ↓Z0, ↓Xp, ↓Xt, Xq, Xc, Nac, Naa, Nat.reduceAdd, Nat.reduceMul, Nat.reduceLT, Nat.reduceEqDiff, reduceIte]
  rfl
 rw [if_neg h4]
 obtain ⟨n, rfl⟩ : ∃ n : Nat, first = n := ⟨first.toNat, by omega⟩
 rw [Int.toNat_natCast]
 have hvc := NdL hv h3
 subst hvc
 clear hlv
 have hwn : IntKind.u64.wrap (n : Int) = (n : Int) := Nbm _ ⟨by omega, by omega⟩
 have hwl : IntKind.u64.wrap (l.length : Int) = (l.length : Int) := Nbm _ ⟨by omega, by omega⟩
 have hpl := NkJ (n := n) (l := l)
 have h65 : ([PV.i .u8 ((65 : Nat) : Int), .i .u8 ((77 : Nat) : Int), .i .u8 ((68 : Nat) : Int), .i .u8 ((49 : Nat) : Int)] : List PV) = Nab amd1 := rfl
 have hA4 : (Nab amd1).length = 4 := rfl
 have hal : amd1.length = 4 := rfl
 have hv1 := NaY n
 have hv2 := NaY l.length
 (repeat (first | rw [Z0] | simp (maxSteps := 2000000) (disch := first | omega | rfl | assumption) only [↓Xp, ↓Xt, Xq, Xc, Nac, Naa, Nat.reduceAdd, Nat.reduceMul, Nat.reduceLT, Nat.reduceEqDiff, reduceIte, Xa, Xn, unP, Nau, Nav, Nao, Xm, Nat.reduceLeDiff, List.nil_append, List.cons_append, Nae, Nau, hwn, h65, hA4, true_and]))
 have oA : ∀ (S : St) (key : Nat), key < S.cnt → Own (S.put key (some (.cells (Nab amd1) false))) 1 (.rsl key 1 0 4) 4 (Nab amd1) := fun S key h => .inr ⟨key, rfl, St.get_putk _ _ _, rfl, h⟩
 refine Nbp (L := amd1 ++ Nah n) (NbO (oA _ _ (by first | omega | (simp only [Z0L_, Nb2, Nat.add_assoc, Nat.reduceAdd]; omega) | (simp only; omega))).deepV rfl) (Nmd hx1 (oA ⟨.leaf, 2⟩ 1 (by decide)).inV (by omega) (by rw [hal]; decide)) (by first | omega | (simp only [Z0L_, Nb2, Nat.add_assoc, Nat.reduceAdd]; omega) | (simp only; omega)) ?_
 intro st1 o1 _ c1 f1
 (try simp only [Z0L_] at c1)
 (repeat (first | rw [Z0] | simp (maxSteps := 2000000) (disch := first | omega | rfl | assumption) only [↓Xp, ↓Xt, Xq, Xc, Nac, Naa, Nat.reduceAdd, Nat.reduceMul, Nat.reduceLT, Nat.reduceEqDiff, reduceIte, Xa, Xn, unP, Nau, Nav, Nao, Xm, Nat.reduceLeDiff, List.nil_append, List.cons_append, Nau, hwl]))
 refine Nbp (L := Nah l.length) (Nes (Ndx _ _ _)) (NoJ hx2 (by omega)) (by first | omega | (simp only [Z0L_, Nb2, Nat.add_assoc, Nat.reduceAdd]; omega) | (simp only; omega)) ?_
 intro st2 o2 _ c2 f2
 (try simp only [Z0L_] at c2)
 replace o1 := o1.over f2 rfl (by omega) (by omega)
 have hco := o2.cells
 have hone := Nbo (Nah l.length)
 simp (disch := first | omega | rfl | assumption) only [hco, hone, if_true]
 refine NcO o1 (by omega) (fun h => by have := o1.lt _ h; simp only [keyOf_rsl, List.mem_singleton] at h; omega) (by rw [Nai, Nat.mul_one]) (by decide) (by rw [List.length_append]; unfold maxBytes; omega) ?_
 intro w st3 o3 c3 q3 f3
 (try simp only [Z0L_] at c3)
 obtain ⟨L0, hL0⟩ : ∃ L0, amd1 ++ Nah n ++ Nah l.length = L0 := ⟨_, rfl⟩
 rw [show Nab (amd1 ++ Nah n) ++ Nab (Nah l.length) = Nab L0 by rw [← hL0]; unfold Nab; rw [List.map_append (l₁ := amd1 ++ Nah n)], show (amd1 ++ Nah n).length + (Nah l.length).length = L0.length by rw [← hL0]; simp only [List.length_append]] at o3
 have hden : Ne1 n l = L0 ++ Nb6 l 0 := by unfold Ne1; rw [hL0]
 obtain ⟨DB, hDB⟩ : ∃ DB, Ne1 n l = DB := ⟨_, rfl⟩
 have hDl : DB.length + 4 ≤ 28 + 100 * l.length := by rw [← hDB]; unfold NgV at hpl; rw [Nb8] at hpl; exact hpl
 rw [hDB] at hden
 refine Za (fun x => ∃ w, x.env.get 6 = w ∧ Own x.st 1 w DB.length (Nab DB)) ?_ ?_
 ·rw [Z0]
  simp (disch := first | omega | rfl | assumption) only [↓Xp, ↓Xt, Xq, Xc, Nac, Naa, Nat.reduceAdd, Nat.reduceMul, Nat.reduceLT, Nat.reduceEqDiff, reduceIte, Xa, Xn, unP, Nau, Nav, Nao, Xl, Nat.reduceLeDiff]
  refine Z9 (k := 5 - 0) (fun q x => ∃ (c : Nat) (w : PV) (O : List UInt8), q = 5 - c ∧ c ≤ 5 ∧ O ++ Nb6 l c = DB ∧ x.env.get 1 = .fsl l.length (Nay l) ∧ x.env.get 6 = w ∧ x.env.get 7 = .i .i64 (c : Int) ∧ Own x.st 1 w O.length (Nab O)) ?_ ?_ (by omega)
  ·rintro q ⟨env, ⟨sto, cc⟩⟩ ⟨c, w, O, rfl, hc, hO, g1, g6, g7, o6⟩
   simp only at g1 g6 g7
   by_cases hlt : c < 5
   ·rw [Nf8 l hlt] at hO
    obtain ⟨vs, hvs⟩ : ∃ vs, l.map (NcL c) = vs := ⟨_, rfl⟩
    have hvl : vs.length = l.length := by rw [← hvs, List.length_map]
    have hva : ∀ i, i < l.length → vs.getD i 0 = NcL c (l.getD i .zero) := fun i hi => by
     rw [← hvs]
     simp [List.getD_eq_getElem?_getD, hi]
    obtain ⟨D, hD⟩ : ∃ D, Ndy 0 vs = D := ⟨_, rfl⟩
    have hDn : D.length = l.length := by rw [← hD, NfS, hvl]
    have hDa : ∀ i, i < l.length → D.getD i 0 = Ncr (if i = 0 then 0 else vs.getD (i - 1) 0) (vs.getD i 0) := fun i hi => by rw [← hD]; exact Nha vs 0 i (by omega)
    rw [hvs, NlP, hD] at hO
    have hOl : O.length ≤ DB.length := by
     have := congrArg List.length hO
     simp only [List.length_append] at this
     omega
    rw [Z0]
    rw [Z0]
    simp (disch := first | omega | rfl | assumption) only [↓Xp, ↓Xt, Xq, Xc, Nac, Naa, Nat.reduceAdd, Nat.reduceMul, Nat.reduceLT, Nat.reduceEqDiff, reduceIte, Xa, Xn, unP, Nau, Nav, Nao, Xl, Nat.reduceLeDiff, g1, g6, g7]
    (try rw [Z0])
    (try simp (maxSteps := 2000000) (disch := first | omega | rfl | assumption) only [↓Xp, ↓Xt, Xq, Xc, Nac, Naa, Nat.reduceAdd, Nat.reduceMul, Nat.reduceLT, Nat.reduceEqDiff, reduceIte, Xa, Xn, unP, Nau, Nav, Nao, Xm, Nat.reduceLeDiff, List.nil_append, List.cons_append, g1, g6, g7])
    (try rw [Z0])
    (try simp (maxSteps := 2000000) (disch := first | omega | rfl | assumption) only [↓Xp, ↓Xt, Xq, Xc, Nac, Naa, Nat.reduceAdd, Nat.reduceMul, Nat.reduceLT, Nat.reduceEqDiff, reduceIte, Xa, Xn, unP, Nau, Nav, Nao, Xm, Nat.reduceLeDiff, List.nil_append, List.cons_append, g1, g6, g7])
    (try rw [Z0])
    (try simp (maxSteps := 2000000) (disch := first | omega | rfl | assumption) only [↓Xp, ↓Xt, Xq, Xc, Nac, Naa, Nat.reduceAdd, Nat.reduceMul, Nat.reduceLT, Nat.reduceEqDiff, reduceIte, Xa, Xn, unP, Nau, Nav, Nao, Xm, Nat.reduceLeDiff, List.nil_append, List.cons_append, g1, g6, g7])
    refine Za (fun x => ∃ w8, x.env.get 1 = .fsl l.length (Nay l) ∧ x.env.get 6 = w ∧ x.env.get 7 = .i .i64 (c : Int) ∧ x.env.get 8 = w8 ∧ Own x.st 1 w O.length (Nab O) ∧ Own x.st 1 w8 D.length (Nb9 D) ∧ ∀ j, j ∈ keyOf w → j ∉ keyOf w8) ?_ ?_
    ·rw [Z0]
     simp (disch := first | omega | rfl | assumption) only [↓Xp, ↓Xt, Xq, Xc, Nac, Naa, Nat.reduceAdd, Nat.reduceMul, Nat.reduceLT, Nat.reduceEqDiff, reduceIte, Xa, Xn, unP, Nau, Nav, Nao, Xl, Nat.reduceLeDiff]
     refine Z9 (k := l.length - 0) (fun q x => ∃ (i : Nat) (w8 : PV), q = l.length - i ∧ i ≤ l.length ∧ x.env.get 1 = .fsl l.length (Nay l) ∧ x.env.get 6 = w ∧ x.env.get 7 = .i .i64 (c : Int) ∧ x.env.get 8 = w8 ∧ x.env.get 9 = .i .i64 (if i = 0 then 0 else vs.getD (i - 1) 0) ∧ x.env.get 10 = .i .i64 (i : Int) ∧ Own x.st 1 w O.length (Nab O) ∧ Own x.st 1 w8 i (Nb9 (D.take i)) ∧ ∀ j, j ∈ keyOf w → j ∉ keyOf w8) ?_ ?_ (by omega)
     ·clear g1 g6 g7 o6
      rintro q ⟨env, ⟨sto, cc⟩⟩ ⟨i, w8, rfl, hi, g1, g6, g7, g8, g9, g10, o6, o8, hdj⟩
      simp only at g1 g6 g7 g8 g9 g10
      by_cases hil : i < l.length
      ·have hld := fun st => NgM (st := st) hil
       have hnk := fun st key => Nri (callE := NaB cfg fuel) hx5 st key (l.getD i .zero) hlt
       have hws := NjQ (if i = 0 then 0 else vs.getD (i - 1) 0) (NcL c (l.getD i .zero))
       rw [← hva i hil] at hnk hws
       have hdi : IntKind.i64.wrap (vs.getD i 0 - (if i = 0 then 0 else vs.getD (i - 1) 0)) = D.getD i 0 := (hDa i hil).symm
       rw [hdi] at hws
       have hnx : (if i + 1 = 0 then (0 : Int) else vs.getD (i + 1 - 1) 0) = vs.getD i 0 := by rw [if_neg (by omega), Nat.add_sub_cancel]
       have hco2 : ∀ (S : St) (k : Nat) (x : PV), cellsOf (S.put k (some (.cells [x] false))) 1 (.rsl k 1 0 1) = some (1, [x]) := fun S k x => by
        rw [Nd2]; rfl
       generalize (if i = 0 then (0 : Int) else vs.getD (i - 1) 0) = pv at g9 hws hdi
       have hel := NaI l
       have o8k : ∀ k, k ∈ keyOf w8 → k < cc := o8.lt
       have o6k : ∀ k, k ∈ keyOf w → k < cc := o6.lt
       (repeat (first | rw [Z0] | simp (maxSteps := 2000000) (disch := first | omega | rfl | assumption) only [↓Xp, ↓Xt, Xq, Xc, Nac, Naa, Nat.reduceAdd, Nat.reduceMul, Nat.reduceLT, Nat.reduceEqDiff, reduceIte, Xa, Xn, unP, Nau, Nav, Nao, Xm, Nat.reduceLeDiff, List.nil_append, List.cons_append, g1, g6, g7, g8, g9, g10, hld, hnk, hws, hco2, hel, true_and]))
       refine NcO ((o8.cnt (by omega)).put (fun h => by have := o8k _ h; omega)) (by first | omega | (simp only [Z0L_, Nb2, Nat.add_assoc, Nat.reduceAdd]; omega) | (simp only; omega)) (fun h => by have := o8k _ h; omega) (m := 1) rfl (by decide) (by unfold maxBytes; omega) ?_
       intro v5 st4 o5 c4 q5 f4
       (try simp only [Z0L_] at c4)
       rw [Nmy _ _ (by omega)] at o5
       have o6' : Own st4 1 w O.length (Nab O) := o6.move (by show cc ≤ _; omega) (fun j hj hlt => by
        have hj2 := o6k j hj
        rw [f4 j (by omega) (hdj j hj), St.get_put_ne (by omega)]; rfl)
       refine ⟨l.length - (i + 1), by omega, i + 1, v5, rfl, by omega, rfl, by rw [hnx], rfl, o6'.cnt (by omega), o5.cnt (by omega), fun j h1 h2 => ?_⟩
       have h3 := q5 j h2
       have h4 := o6k j h1
       omega
      ·have : i = l.length := by omega
       subst this
       rw [← hDn, List.take_length, hDn] at o8
       simp (disch := first | omega | rfl | assumption) only [↓Z0, ↓Xp, ↓Xt, Xq, Xc, Nac, Naa, Nat.reduceAdd, Nat.reduceMul, Nat.reduceLT, Nat.reduceEqDiff, reduceIte, Xm, Nat.reduceLeDiff, Xa, Xn, unP, Nau, Nav, Nao, g1, g6, g7, g8, g9, g10]
       exact ⟨w8, rfl, o6.cnt (by omega), by rw [hDn]; exact o8.cnt (by omega), hdj⟩
     ·refine ⟨0, .nsl, rfl, by omega, ?_⟩
      simp only [Env.get_put, Nat.reduceEqDiff, if_false, if_true, g1, g6, g7]
      exact ⟨trivial, trivial, trivial, trivial, rfl, trivial, o6.cnt (by omega), Own.nil _ _, fun j _ h => by simp [keyOf] at h⟩
    clear g1 g6 g7 o6
    rintro ⟨env, ⟨sto, cc⟩⟩ ⟨w8, g1, g6, g7, g8, o6, o8, hdj⟩
    simp only at g1 g6 g7 g8
    obtain ⟨kD, rfl, hkD, _, hkc⟩ := o8.obj (by omega)
    rw [Z0]
    simp (disch := first | omega | rfl | assumption) only [↓Xp, ↓Xt, Xq, Xc, Nac, Naa, Nat.reduceAdd, Nat.reduceMul, Nat.reduceLT, Nat.reduceEqDiff, reduceIte, Xa, Xn, unP, Nau, Nav, Nao, Xl, Nat.reduceLeDiff]
    refine Z9 (k := D.length - 0) (fun q x => ∃ (i : Nat) (w : PV) (O : List UInt8), q = D.length - i ∧ i ≤ D.length ∧ O ++ (NpV (D.drop i) ++ Nb6 l (c + 1)) = DB ∧ x.env.get 1 = .fsl l.length (Nay l) ∧ x.env.get 6 = w ∧ x.env.get 7 = .i .i64 (c : Int) ∧ x.env.get 8 = .rsl kD 1 0 D.length ∧ x.env.get 12 = .i .i64 (i : Int) ∧ Own x.st 1 w O.length (Nab O) ∧ Own x.st 1 (.rsl kD 1 0 D.length) D.length (Nb9 D) ∧ ∀ j, j ∈ keyOf w → j ≠ kD) ?_ ?_ (by omega)
    ·clear g1 g6 g7 g8 o6 o8 hkD hkc hOl hdj
     rintro q ⟨env, ⟨sto, cc⟩⟩ ⟨i, w, O2, rfl, hi, hO2, g1, g6, g7, g8, g12, o6, o8, hdj⟩
     simp only at g1 g6 g7 g8 g12
     obtain ⟨_, e8, hkD, _, hkc⟩ := o8.obj (by omega)
     injection e8 with e8
     subst e8
     have hkc' : kD < cc := hkc
     have hOl : O2.length ≤ DB.length := by
      have := congrArg List.length hO2
      simp only [List.length_append] at this
      omega
     by_cases hil : i < D.length
     ·rw [Npo hil] at hO2
      obtain ⟨d, hd⟩ : ∃ d, D.getD i 0 = d := ⟨_, rfl⟩
      rw [hd] at hO2
      have hd64 : NcN d := by rw [← hd, hDa i (by omega)]; exact NkG _ _
      rw [Z0]
      rw [Z0]
      simp (disch := first | omega | rfl | assumption) only [↓Xp, ↓Xt, Xq, Xc, Nac, Naa, Nat.reduceAdd, Nat.reduceMul, Nat.reduceLT, Nat.reduceEqDiff, reduceIte, Xa, Xn, unP, Nau, Nav, Nao, Xl, Nat.reduceLeDiff, Nao, g1, g6, g7, g8, g12]
      (try rw [Z0])
      (try simp (maxSteps := 2000000) (disch := first | omega | rfl | assumption) only [↓Xp, ↓Xt, Xq, Xc, Nac, Naa, Nat.reduceAdd, Nat.reduceMul, Nat.reduceLT, Nat.reduceEqDiff, reduceIte, Xa, Xn, unP, Nau, Nav, Nao, Xm, Nat.reduceLeDiff, List.nil_append, List.cons_append, Nao, g1, g6, g7, g8, g12])
      (try rw [Z0])
      (try simp (maxSteps := 2000000) (disch := first | omega | rfl | assumption) only [↓Xp, ↓Xt, Xq, Xc, Nac, Naa, Nat.reduceAdd, Nat.reduceMul, Nat.reduceLT, Nat.reduceEqDiff, reduceIte, Xa, Xn, unP, Nau, Nav, Nao, Xm, Nat.reduceLeDiff, List.nil_append, List.cons_append, Nao, g1, g6, g7, g8, g12])
      refine Za (fun x => ∃ run, 1 ≤ run ∧ i + run ≤ D.length ∧ Nhy d 1 (D.drop (i + 1)) = Ncb d run ++ NpV (D.drop (i + run)) ∧ x.env.get 1 = .fsl l.length (Nay l) ∧ x.env.get 6 = w ∧ x.env.get 7 = .i .i64 (c : Int) ∧ x.env.get 8 = .rsl kD 1 0 D.length ∧ x.env.get 12 = .i .i64 (i : Int) ∧ x.env.get 13 = .i .i64 (run : Int) ∧ x.st.sto = sto ∧ cc ≤ x.st.cnt) ?_ ?_
      ·rw [Z2]
       refine Z9 (k := D.length - i - 1) (fun q x => ∃ run : Nat, q = D.length - i - run ∧ 1 ≤ run ∧ i + run ≤ D.length ∧ Nhy d 1 (D.drop (i + 1)) = Nhy d run (D.drop (i + run)) ∧ x.env.get 1 = .fsl l.length (Nay l) ∧ x.env.get 6 = w ∧ x.env.get 7 = .i .i64 (c : Int) ∧ x.env.get 8 = .rsl kD 1 0 D.length ∧ x.env.get 12 = .i .i64 (i : Int) ∧ x.env.get 13 = .i .i64 (run : Int) ∧ x.st.sto = sto ∧ cc ≤ x.st.cnt) ?_ ?_ (by omega)
       ·clear g1 g6 g7 g8 g12
        rintro q ⟨env, ⟨sto', cc'⟩⟩ ⟨run, rfl, hr1, hr2, hrun, g1, g6, g7, g8, g12, g13, hso, hcc⟩
        simp only at g1 g6 g7 g8 g12 g13 hso hcc
        subst hso
        have hli := fun N => Nfo (show St.get ⟨sto', N⟩ kD = _ from hkD) hil
        rw [hd] at hli
        obtain ⟨ir, hir⟩ : ∃ ir, i + run = ir := ⟨_, rfl⟩
        rw [hir] at hrun
        by_cases hb1 : ir < D.length
        ·have hlr := fun N => Nfo (show St.get ⟨sto', N⟩ kD = _ from hkD) hb1
         by_cases hb2 : D.getD ir 0 = d
         ·rw [hb2] at hlr
          have hbt : (d == d) = true := beq_self_eq_true _
          simp (disch := first | omega | rfl | assumption) only [↓Z0, ↓Xp, ↓Xt, Xq, Xc, Nac, Naa, Nat.reduceAdd, Nat.reduceMul, Nat.reduceLT, Nat.reduceEqDiff, reduceIte, Xl, Nat.reduceLeDiff, Xa, Xn, Nao, g1, g6, g7, g8, g12, g13, hir, hli, hlr, hbt]
          refine ⟨D.length - i - (run + 1), by omega, run + 1, rfl, by omega, by omega, ?_, rfl⟩
          rw [hrun, NmC hb1 hb2, ← hir, Nat.add_assoc]
         ·have hbf : (D.getD ir 0 == d) = false := by simpa using hb2
          simp (disch := first | omega | rfl | assumption) only [↓Z0, ↓Xp, ↓Xt, Xq, Xc, Nac, Naa, Nat.reduceAdd, Nat.reduceMul, Nat.reduceLT, Nat.reduceEqDiff, reduceIte, Xl, Nat.reduceLeDiff, Xa, Xn, Nao, g1, g6, g7, g8, g12, g13, hir, hli, hlr, hbf]
          refine ⟨run, hr1, by omega, ?_, rfl⟩
          rw [hrun, hir, NhE (fun h => hb2 h.2)]
        ·simp (disch := first | omega | rfl | assumption) only [↓Z0, ↓Xp, ↓Xt, Xq, Xc, Nac, Naa, Nat.reduceAdd, Nat.reduceMul, Nat.reduceLT, Nat.reduceEqDiff, reduceIte, Xl, Nat.reduceLeDiff, Xa, Xn, Nao, g1, g6, g7, g8, g12, g13, hir, hli]
         refine ⟨run, hr1, by omega, ?_, rfl⟩
         rw [hrun, hir, NhE (fun h => hb1 h.1)]
       ·refine ⟨1, rfl, by omega, by omega, rfl, ?_⟩
        simp only [Env.get_put, Nat.reduceEqDiff, if_false, if_true, g1, g6, g7, g8, g12]
        exact ⟨trivial, trivial, trivial, trivial, trivial, trivial, trivial, by omega⟩
      ·clear g1 g6 g7 g8 g12
       rintro ⟨env, ⟨sto', cc'⟩⟩ ⟨run, hr1, hr2, hrun, g1, g6, g7, g8, g12, g13, hso, hcc⟩
       simp only at g1 g6 g7 g8 g12 g13 hso hcc
       subst hso
       have hli := fun N => Nfo (show St.get ⟨sto', N⟩ kD = _ from hkD) hil
       rw [hd] at hli
       rw [hrun] at hO2
       unfold Ncb at hO2
       have hlen2 := congrArg List.length hO2
       simp only [List.length_append] at hlen2
       replace o6 : Own ⟨sto', cc'⟩ 1 w O2.length (Nab O2) := o6.cnt hcc
       replace o8 : Own ⟨sto', cc'⟩ 1 (.rsl kD 1 0 D.length) D.length (Nb9 D) := o8.cnt hcc
       simp (disch := first | omega | rfl | assumption) only [↓Xp, ↓Xt, Xq, Xc, Nac, Naa, Nat.reduceAdd, Nat.reduceMul, Nat.reduceLT, Nat.reduceEqDiff, reduceIte, Xa, Xn, unP, Nau, Nav, Nao, Xl, Nat.reduceLeDiff, ↓Z0, Nao, g1, g6, g7, g8, g12, g13, hli]
       refine Nbp (L := O2 ++ Nah (foldN d)) (NbO (o6.cnt (by omega)).deepV rfl) (Nr1 hx3 (o6.cnt (Nat.le_refl _)).inV hd64 (by omega)) (by first | omega | (simp only [Z0L_, Nb2, Nat.add_assoc, Nat.reduceAdd]; omega) | (simp only; omega)) ?_
       intro st4 o4 _ c4 f4
       (try simp only [Z0L_] at c4)
       refine Nbp (L := Nah run) (Nes (Ndx _ _ _)) (NoJ hx2 (by omega)) (by first | omega | (simp only [Z0L_, Nb2, Nat.add_assoc, Nat.reduceAdd]; omega) | (simp only; omega)) ?_
       intro st5 o5 _ c5 f5
       (try simp only [Z0L_] at c5)
       have o8k : kD < cc' := by omega
       replace o4 := o4.over f5 rfl (by omega) (by omega)
       have o8a := (o8.over f4 rfl (by show cc' ≤ _; omega) (by show cc' ≤ _; omega)).over f5 rfl (by omega) (by omega)
       have hco := o5.cells
       have hone := Nbo (Nah run)
       simp only [hco, hone, if_true]
       refine NcO o4 (by omega) (fun h => by have := o4.lt _ h; simp only [keyOf_rsl, List.mem_singleton] at h; omega) (by rw [Nai, Nat.mul_one]) (by decide) (by rw [List.length_append]; unfold maxBytes; omega) ?_
       intro w2 st6 o9 c6 q6 f6
       (try simp only [Z0L_] at c6)
       have o8b : Own st6 1 (.rsl kD 1 0 D.length) D.length (Nb9 D) := o8a.move (by omega) (fun j hj hlt => by
        simp only [keyOf_rsl, List.mem_singleton] at hj
        exact f6 j (by omega) (fun h => by simp only [keyOf_rsl, List.mem_singleton] at h; omega))
       have eL : Nab (O2 ++ Nah (foldN d)) ++ Nab (Nah run) = Nab (O2 ++ Nah (foldN d) ++ Nah run) := by unfold Nab; rw [List.map_append (l₁ := O2 ++ Nah (foldN d))]
       rw [eL, ← List.length_append] at o9
       refine ⟨D.length - (i + run), by omega, i + run, w2, O2 ++ Nah (foldN d) ++ Nah run, rfl, by omega, by rw [← hO2]; simp only [List.append_assoc], rfl, by congr 1; omega, o9.cnt (by omega), o8b.cnt (by omega), fun j hj e => ?_⟩
       have := q6 j hj
       omega
     ·have : i = D.length := by omega
      subst this
      rw [List.drop_length] at hO2
      simp (disch := first | omega | rfl | assumption) only [↓Z0, ↓Xp, ↓Xt, Xq, Xc, Nac, Naa, Nat.reduceAdd, Nat.reduceMul, Nat.reduceLT, Nat.reduceEqDiff, reduceIte, Xl, Nat.reduceLeDiff, Xa, Xn, Nao, g1, g6, g7, g8, g12]
      refine ⟨5 - (c + 1), by omega, c + 1, w, O2, rfl, by omega, by rw [← hO2]; rfl, rfl, rfl, o6.cnt (by omega)⟩
    ·refine ⟨0, w, O, rfl, by omega, by rw [List.drop_zero]; exact hO, ?_⟩
     simp only [Env.get_put, Nat.reduceEqDiff, if_false, if_true, g1, g6, g7, g8]
     exact ⟨trivial, trivial, trivial, trivial, trivial, o6.cnt (by omega), o8.cnt (by omega), fun j hj e => hdj j hj (by rw [e]; simp [keyOf])⟩
   ·have : c = 5 := by omega
    subst this
    have hO' : O = DB := by rw [← hO]; exact (List.append_nil _).symm
    subst hO'
    simp (disch := first | omega | rfl | assumption) only [↓Z0, ↓Xp, ↓Xt, Xq, Xc, Nac, Naa, Nat.reduceAdd, Nat.reduceMul, Nat.reduceLT, Nat.reduceEqDiff, reduceIte, Xl, Nat.reduceLeDiff, Xa, Xn, g1, g6, g7]
    exact ⟨_, rfl, o6.cnt (by omega)⟩
  ·refine ⟨0, w, L0, rfl, by omega, hden.symm, ?_⟩
   simp only [Env.get_put, Nat.reduceEqDiff, if_false, if_true]
   exact ⟨trivial, trivial, trivial, o3.cnt (by omega)⟩
 rintro ⟨env, ⟨sto, c⟩⟩ ⟨w, g6, o6⟩
 simp only at g6
 rw [Z0]
 simp (disch := first | omega | rfl | assumption) only [↓Xp, ↓Xt, Xq, Xc, Nac, Naa, Nat.reduceAdd, Nat.reduceMul, Nat.reduceLT, Nat.reduceEqDiff, reduceIte, Xa, Xn, unP, Nau, Nav, Nao, Xl, Nat.reduceLeDiff, g6]
 refine Nbp (L := NgV n l) (NaT (o6.cnt (by omega)).deepV) (by rw [NgD hx4 (o6.cnt (Nat.le_refl _)).inV (by omega), ← hDB]; rfl) (by first | omega | (simp only [Z0L_, Nb2, Nat.add_assoc, Nat.reduceAdd]; omega) | (simp only; omega)) ?_
 intro st4 o4 _ c4 f4
 refine ⟨nofun, _, rfl, ?_⟩
 simp only [Naz, ↓Z0, ↓Xp, ↓Xt, Xq, Xc, Nac, Naa, Nat.reduceAdd, Nat.reduceMul, Nat.reduceLT, Nat.reduceEqDiff, reduceIte]
 exact Nbj (pre := []) (post := [.i .i64 0]) (o4.cnt (by omega)) rfl rfl (Nbh _) (by decide)
end Go.Pe
