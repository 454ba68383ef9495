/-
 The document's answer for layer 4: dense and Unpack, by the interpreter of plain data. No condition.
-/
import Derived.Test.YtogdkhejfkbnmaaRefI
set_option linter.unusedVariables false
set_option linter.unusedSimpArgs false
set_option maxHeartbeats 16000000
set_option maxRecDepth 100000
namespace Go.Pe
open Go Go.Am Go.RowKit

def Nc4 (m : List UInt8) : Option (Nat × List Ev × Int) :=
 if (m.take 4 == amd1) = false then none
 else if (Nax m 4).2.2 ≠ 0 ∨ 4611686018427387904 < (Nax m 4).1 then none
 else if (Nax m (Nax m 4).2.1).2.2 ≠ 0 ∨ (Nax m (Nax m 4).2.1).1 < 1 ∨ 1048576 < (Nax m (Nax m 4).2.1).1 then none
 else (NcK m (ksF 0) (Nax m (Nax m 4).2.1).2.1 (List.replicate (Nax m (Nax m 4).2.1).1 .zero)).map fun p => ((Nax m 4).1, p.1, p.2)
theorem Nnt (m : List UInt8) : NhJ m = match Nc4 m with
 | none => none
 | some (n, L, a) => if a < (m.length : Int) then none else some (n, L) := by
 unfold NhJ Nc4
 split
 ·rfl
 split
 ·rfl
 split
 ·rfl
 cases NcK m (ksF 0) (Nax m (Nax m 4).2.1).2.1 (List.replicate (Nax m (Nax m 4).2.1).1 .zero) with
 | none => rfl
 | some p => rfl
def failD : PV := .tup [.i .i64 0, .nsl, .b false]
def NhM (m : List UInt8) : PV := match Nc4 m with
 | none => failD
 | some (n, L, a) => .tup [.i .i64 (n : Int), .osl 5 L.length (Nay L), .b (a == (m.length : Int))]
theorem NmS {st : St} {q : Nat} {fz : Bool} {L : List Ev} (hk : st.get q = some (.cells (Nay L) fz)) {i : Nat} (hi : i < L.length) : loadP st 5 (.ptr q (i * 5)) = some (evC (L.getD i .zero)) := by
 have hd : (Nay L).drop (i * 5) = evC (L.getD i .zero) ++ Nay (L.drop (i + 1)) := by
  rw [Nd4, List.drop_eq_getElem_cons hi]
  have : Nay (L[i] :: L.drop (i + 1)) = evC L[i] ++ Nay (L.drop (i + 1)) := rfl
  rw [this]
  simp [List.getD_eq_getElem?_getD, hi]
 unfold loadP
 simp only [hk]
 unfold cut?
 rw [if_pos (by rw [NaI]; omega), hd]
 rfl
theorem NlE {st : St} {q : Nat} {L : List Ev} (hk : st.get q = some (.cells (Nay L) false)) {i : Nat} (hi : i < L.length) (e : Ev) : NaV st 5 (.ptr q (i * 5)) (.agg (evC e)) = some (st.put q (some (.cells (Nay (L.set i e)) false))) := by
 have h1 : (Nay L).take (i * 5) ++ evC e ++ (Nay L).drop (i * 5 + 5) = Nay (L.set i e) := by
  rw [NhD, show i * 5 + 5 = (i + 1) * 5 by omega, Nd4, List.set_eq_take_append_cons_drop, if_pos hi]
  have : Nay (e :: L.drop (i + 1)) = evC e ++ Nay (L.drop (i + 1)) := rfl
  rw [Ndq, this, List.append_assoc]
 unfold NaV
 simp only [hk, Nqb]
 rw [if_pos ⟨rfl, by rw [NaI]; omega, Nez e⟩, h1]
theorem No9 {cfg : Cfg} {callE : CallE} (hx : cfg.ext 79 = some Ngl) (st : St) (key : Nat) (e : Ev) {c : Nat} (hc : c < 5) (n : Int) : Naf (Nag cfg callE 79) false st key [.agg (evC e), .i .i64 (c : Int), .i .i64 n] = some (.agg (evC (Nkx c e n)), st) := by
 refine Nas (r := .agg (evC (Nkx c e n))) (NqZ (NiZ _ e) rfl rfl) ?_ rfl
 rw [Nad hx]
 have h2 := e.O.toNat_lt
 have h3 : ((e.O.toNat : Int).toNat).toUInt8 = e.O := by
  rw [Int.toNat_natCast, Nat.toUInt8]
  exact UInt8.toNat_inj.1 (by rw [UInt8.toNat_ofNat']; omega)
 unfold Ngl evC
 simp only []
 rw [if_pos ⟨by omega, by omega, by omega, by omega⟩, h3, Int.toNat_natCast]
theorem Nky {b : List UInt8} {k f : Nat} {n last : Int} {fst : Bool} {a : Int} : NgQ b k f 0 n last fst a = some ([], a) := by
 cases f <;> simp [NgQ]
theorem NfB {m : List UInt8} : (m.take 4 == amd1) = true ↔ (4 ≤ m.length ∧ ∀ j, j < 4 → m.getD j 0 = amd1.getD j 0) := by
 have hal : amd1.length = 4 := rfl
 have h6 : amd1.take 4 = amd1 := rfl
 rw [beq_iff_eq]
 constructor
 ·intro h
  have hl : 4 ≤ m.length := by
   have := congrArg List.length h
   rw [List.length_take, hal] at this
   omega
  refine ⟨hl, (NdP (a := m) (b := amd1) hl (by omega)).1 (by rw [h, h6])⟩
 ·rintro ⟨hl, h⟩
  rw [(NdP (a := m) (b := amd1) hl (by omega)).2 h, h6]
theorem NpJ {cfg : Cfg} {callE : CallE} {n : Nat} {a : MCode} {x : Now} {Q : MExit → Now → Prop} (R : Now → Prop) (h : WC cfg callE n a x (Nis Q R)) (k : ∀ x', R x' → Q .nrm x') : WC cfg callE n a x Q := by
 refine h.mono ?_
 intro e x' hq
 cases e with
 | nrm => exact k x' hq
 | ex id => exact hq
 | ret => exact hq
theorem NlH (b : List UInt8) (k f m : Nat) (n last : Int) (fst : Bool) (at0 : Int) : NgQ b k (f + 1) m n last fst at0 = if m = 0 then some ([], at0)
 else if (Na5 b at0).2.2 ≠ 0 then none
 else if (Nax b (Na5 b at0).2.1).2.2 ≠ 0 ∨ (Nax b (Na5 b at0).2.1).1 < 1 ∨ m < (Nax b (Na5 b at0).2.1).1 ∨ (fst = false ∧ (Na5 b at0).1 = last) then none
 else match Nh8 k (Nax b (Na5 b at0).2.1).1 n (Na5 b at0).1 with
  | none => none
  | some (vs, n') => (NgQ b k f (m - (Nax b (Na5 b at0).2.1).1) n' (Na5 b at0).1 false (Nax b (Na5 b at0).2.1).2.1).map fun p => (vs ++ p.1, p.2) := rfl
theorem Nlq {b : List UInt8} {k f m : Nat} {n last : Int} {fst : Bool} {a : Int} {P : List Int} {CV : Option (List Int × Int)} (h : Nee P (NgQ b k (f + 1) m n last fst a) = CV) (hm : ¬ m = 0) :
 ((Na5 b a).2.2 ≠ 0 → CV = none) ∧ ((Nax b (Na5 b a).2.1).2.2 ≠ 0 ∨ (Nax b (Na5 b a).2.1).1 < 1 ∨ m < (Nax b (Na5 b a).2.1).1 ∨ (fst = false ∧ (Na5 b a).1 = last) → CV = none) ∧
 ((Na5 b a).2.2 = 0 → ¬ ((Nax b (Na5 b a).2.1).2.2 ≠ 0 ∨ (Nax b (Na5 b a).2.1).1 < 1 ∨ m < (Nax b (Na5 b a).2.1).1 ∨ (fst = false ∧ (Na5 b a).1 = last)) → (Nh8 k (Nax b (Na5 b a).2.1).1 n (Na5 b a).1 = none → CV = none) ∧ ∀ vs n', Nh8 k (Nax b (Na5 b a).2.1).1 n (Na5 b a).1 = some (vs, n') → CV = Nee (P ++ vs) (NgQ b k f (m - (Nax b (Na5 b a).2.1).1) n' (Na5 b a).1 false (Nax b (Na5 b a).2.1).2.1)) := by
 subst h
 rw [NlH, if_neg hm]
 refine ⟨fun h => by rw [if_pos h]; rfl, fun h => ?_, fun h1 h2 => ⟨fun h => ?_, fun vs n' h => ?_⟩⟩
 ·by_cases h0 : (Na5 b a).2.2 ≠ 0
  ·rw [if_pos h0]; rfl
  ·rw [if_neg h0, if_pos h]; rfl
 ·rw [if_neg (by simp [h1]), if_neg h2, h]; rfl
 ·rw [if_neg (by simp [h1]), if_neg h2, h, ← NeP]
theorem Nmf {cfg : Cfg} (hf : cfg.fn 53 = some m53) (hx1 : cfg.ext 76 = some Nce) (hx2 : cfg.ext 78 = some NdY) (hx3 : cfg.ext 79 = some Ngl) {v : PV} {m : List UInt8} (hv : inL v = some m) (hl : m.length ≤ 140737488355000) {fuel : Nat} (hfu : 1048600 ≤ fuel) :
 ∃ r st', NaB cfg (fuel + 1) 53 [v] { sto := .leaf, cnt := 1 } = some (r, st') ∧ Naq st' r = some (NhM m) := by
 refine Naw hf ?_
 unfold m53
 have hlv := Nba hv
 have h65 : ([PV.i .u8 ((65 : Nat) : Int), .i .u8 ((77 : Nat) : Int), .i .u8 ((68 : Nat) : Int), .i .u8 ((49 : Nat) : Int)] : List PV) = Nab amd1 := rfl
 have hA4 : (Nab amd1).length = 4 := rfl
 have hfl : ∀ st : St, Naq st failD = some failD := fun st => Nal (vs := [.i .i64 _, .nsl, .b false]) rfl
 unfold NhM
 rw [Z0]
 simp (disch := first | omega | rfl | assumption) only [↓Xp, ↓Xt, Xq, Xc, Nac, Naa, Nat.reduceAdd, Nat.reduceMul, Nat.reduceLT, Nat.reduceEqDiff, reduceIte, Xa, Xn, unP, Nau, Nav, Nao, Xm, Nat.reduceLeDiff, Nae]
 rw [Z0]
 simp (disch := first | omega | rfl | assumption) only [↓Xp, ↓Xt, Xq, Xc, Nac, Naa, Nat.reduceAdd, Nat.reduceMul, Nat.reduceLT, Nat.reduceEqDiff, reduceIte, Xa, Xn, unP, Nau, Nav, Nao, Xm, Nat.reduceLeDiff, h65, hA4, true_and]
 refine Nd7 (fun x => x.env.get 0 = v ∧ 4 ≤ m.length ∧ ∀ j, j < 4 → m.getD j 0 = amd1.getD j 0) ?_ ?_
 ·rw [Z0]
  simp (disch := first | omega | rfl | assumption) only [↓Xp, ↓Xt, Xq, Xc, Nac, Naa, Nat.reduceAdd, Nat.reduceMul, Nat.reduceLT, Nat.reduceEqDiff, reduceIte, Xa, Xn, unP, Nau, Nav, Nao, Xm, Nat.reduceLeDiff, Nae, h65, hA4]
  refine Z9 (k := 4 - 0) (fun d x => ∃ (i q : Nat), d = 4 - i ∧ i ≤ 4 ∧ i ≤ m.length ∧ (∀ j, j < i → m.getD j 0 = amd1.getD j 0) ∧ x.env.get 0 = v ∧ x.env.get 5 = .rsl q 1 0 4 ∧ x.env.get 6 = .i .i64 (i : Int) ∧ x.st.get q = some (.cells (Nab amd1) false)) ?_ ?_ (by omega)
  ·rintro d ⟨env, ⟨sto, c⟩⟩ ⟨i, q, rfl, hi, hil, hp, g0, g5, g6, hq⟩
   simp only at g0 g5 g6
   by_cases hlt : i < 4
   ·by_cases hll : m.length ≤ i
    ·have hre : Nc4 m = none := by
      unfold Nc4
      rw [if_pos]
      rw [← Bool.not_eq_true, NfB]
      exact fun h => by omega
     simp (disch := first | omega | rfl | assumption) only [↓Z0, ↓Xp, ↓Xt, Xq, Xc, Nac, Naa, Nat.reduceAdd, Nat.reduceMul, Nat.reduceLT, Nat.reduceEqDiff, reduceIte, Xm, Nat.reduceLeDiff, Xa, Xn, unP, Nau, Nav, Nao, g0, g5, g6, hlv]
     refine ⟨nofun, _, rfl, ?_⟩
     simp only [Naz, ↓Z0, ↓Xp, ↓Xt, Xq, Xc, Nac, Naa, Nat.reduceAdd, Nat.reduceMul, Nat.reduceLT, Nat.reduceEqDiff, reduceIte]
     rw [hre]
     exact hfl _
    ·have hvc := Nbd hv (fun e => by rw [e] at hll; simp at hll)
     subst hvc
     have hb0 := fun N => Ngz (st := ⟨sto, N⟩) (l := m) (i := i) (by omega)
     have hb1 := fun N => Ngv (st := ⟨sto, N⟩) (L := amd1) hq (i := i) hlt
     by_cases hne : m.getD i 0 = amd1.getD i 0
     ·have hb : (((m.getD i 0).toNat : Int) != ((amd1.getD i 0).toNat : Int)) = false := by rw [hne]; simp
      simp (disch := first | omega | rfl | assumption) only [↓Z0, ↓Xp, ↓Xt, Xq, Xc, Nac, Naa, Nat.reduceAdd, Nat.reduceMul, Nat.reduceLT, Nat.reduceEqDiff, reduceIte, Xl, Nat.reduceLeDiff, Xa, Xn, g0, g5, g6, hlv, hb0, hb1, hb, Nai]
      refine ⟨4 - (i + 1), by omega, i + 1, q, rfl, by omega, by omega, fun j hj => ?_, rfl, rfl, hq⟩
      by_cases hji : j < i
      ·exact hp j hji
      ·have : j = i := by omega
       subst this; exact hne
     ·have hb : (((m.getD i 0).toNat : Int) != ((amd1.getD i 0).toNat : Int)) = true := by
       simp only [bne_iff_ne, ne_eq]
       exact fun e => hne (UInt8.toNat_inj.1 (by omega))
      have hre : Nc4 m = none := by
       unfold Nc4
       rw [if_pos]
       rw [← Bool.not_eq_true, NfB]
       exact fun h => hne (h.2 i hlt)
      simp (disch := first | omega | rfl | assumption) only [↓Z0, ↓Xp, ↓Xt, Xq, Xc, Nac, Naa, Nat.reduceAdd, Nat.reduceMul, Nat.reduceLT, Nat.reduceEqDiff, reduceIte, Xl, Nat.reduceLeDiff, Xa, Xn, g0, g5, g6, hlv, hb0, hb1, hb, Nai]
      refine ⟨nofun, _, rfl, ?_⟩
      simp only [Naz, ↓Z0, ↓Xp, ↓Xt, Xq, Xc, Nac, Naa, Nat.reduceAdd, Nat.reduceMul, Nat.reduceLT, Nat.reduceEqDiff, reduceIte]
      rw [hre]
      exact hfl _
   ·have : i = 4 := by omega
    subst this
    simp (disch := first | omega | rfl | assumption) only [↓Z0, ↓Xp, ↓Xt, Xq, Xc, Nac, Naa, Nat.reduceAdd, Nat.reduceMul, Nat.reduceLT, Nat.reduceEqDiff, reduceIte, Xm, Nat.reduceLeDiff, Xa, Xn, unP, Nau, Nav, Nao, g0, g5, g6]
    exact hp
  ·refine ⟨0, 25, rfl, by omega, by omega, fun j hj => by omega, ?_⟩
   simp only [Env.get_put, Nat.reduceEqDiff, if_false, if_true]
   exact ⟨trivial, trivial, trivial, by rw [Nh3]; exact St.get_putk _ _ _⟩
 rintro ⟨env, ⟨sto, c⟩⟩ ⟨g0, h4, hp⟩
 simp only at g0
 have hpre := NfB.2 ⟨h4, hp⟩
 unfold Nc4
 rw [if_neg (by rw [hpre]; simp)]
 clear hp hpre
 have cu := fun st key a => Nlm (cfg := cfg) (callE := NaB cfg fuel) hx1 hv (by omega) st key a
 have ci := fun st key a => Nqa (cfg := cfg) (callE := NaB cfg fuel) hx2 hv (by omega) st key a
 have e4 : Nax m ((4 : Nat) : Int) = Nax m 4 := rfl
 have cu4 := fun st key => cu st key ((4 : Nat) : Int)
 rw [e4] at cu4
 have hokU := @NbY m
 have hlt1 := Nbx m 4
 obtain ⟨N, hN⟩ : ∃ N, (Nax m 4).1 = N := ⟨_, rfl⟩
 obtain ⟨e, he⟩ : ∃ e, (Nax m 4).2.2 = e := ⟨_, rfl⟩
 obtain ⟨nx, hnx⟩ : ∃ nx, (Nax m 4).2.1 = nx := ⟨_, rfl⟩
 simp only [hN, he, hnx] at cu4
 rw [hN, he, hnx]
 by_cases h0 : e = 0
 ·subst h0
  by_cases h1 : 4611686018427387904 < N
  ·rw [if_pos (.inr h1)]
   simp (disch := first | omega | rfl | assumption) only [↓Z0, ↓Xp, ↓Xt, Xq, Xc, Nac, Naa, Nat.reduceAdd, Nat.reduceMul, Nat.reduceLT, Nat.reduceEqDiff, reduceIte, Xm, Nat.reduceLeDiff, Xa, Xn, unP, Nau, Nav, Nao, g0, cu4]
   refine ⟨nofun, _, rfl, ?_⟩
   simp only [Naz, ↓Z0, ↓Xp, ↓Xt, Xq, Xc, Nac, Naa, Nat.reduceAdd, Nat.reduceMul, Nat.reduceLT, Nat.reduceEqDiff, reduceIte]
   exact hfl _
  rw [if_neg (by simp [h1])]
  have cu5 := fun st key => cu st key nx
  obtain ⟨n, hn⟩ : ∃ n, (Nax m nx).1 = n := ⟨_, rfl⟩
  obtain ⟨e2, he2⟩ : ∃ e, (Nax m nx).2.2 = e := ⟨_, rfl⟩
  obtain ⟨a0, ha0⟩ : ∃ a, (Nax m nx).2.1 = a := ⟨_, rfl⟩
  have hlt2 := Nbx m nx
  simp only [hn, he2, ha0] at cu5
  rw [hn, he2, ha0]
  rw [hn] at hlt2
  by_cases h02 : e2 = 0
  ·subst h02
   by_cases h2 : n < 1
   ·rw [if_pos (.inr (.inl h2))]
    simp (disch := first | omega | rfl | assumption) only [↓Z0, ↓Xp, ↓Xt, Xq, Xc, Nac, Naa, Nat.reduceAdd, Nat.reduceMul, Nat.reduceLT, Nat.reduceEqDiff, reduceIte, Xm, Nat.reduceLeDiff, Xa, Xn, unP, Nau, Nav, Nao, g0, cu4, cu5]
    refine ⟨nofun, _, rfl, ?_⟩
    simp only [Naz, ↓Z0, ↓Xp, ↓Xt, Xq, Xc, Nac, Naa, Nat.reduceAdd, Nat.reduceMul, Nat.reduceLT, Nat.reduceEqDiff, reduceIte]
    exact hfl _
   by_cases h3 : 1048576 < n
   ·rw [if_pos (.inr (.inr h3))]
    simp (disch := first | omega | rfl | assumption) only [↓Z0, ↓Xp, ↓Xt, Xq, Xc, Nac, Naa, Nat.reduceAdd, Nat.reduceMul, Nat.reduceLT, Nat.reduceEqDiff, reduceIte, Xm, Nat.reduceLeDiff, Xa, Xn, unP, Nau, Nav, Nao, g0, cu4, cu5]
    refine ⟨nofun, _, rfl, ?_⟩
    simp only [Naz, ↓Z0, ↓Xp, ↓Xt, Xq, Xc, Nac, Naa, Nat.reduceAdd, Nat.reduceMul, Nat.reduceLT, Nat.reduceEqDiff, reduceIte]
    exact hfl _
   rw [if_neg (by simp [h2, h3])]
   obtain ⟨hnx0, _, rest, hd2, hn2, hle2⟩ := hokU (a := nx) he2
   rw [ha0] at hle2 hn2
   obtain ⟨a1, rfl⟩ : ∃ a : Nat, a0 = a := ⟨a0.toNat, by omega⟩
   obtain ⟨L0, hL0⟩ : ∃ L0, List.replicate n Ev.zero = L0 := ⟨_, rfl⟩
   have hL0l : L0.length = n := by rw [← hL0, List.length_replicate]
   have hzs := Nhd n
   rw [hL0] at hzs ⊢
   have hzs2 : (List.replicate n [PV.i .i64 ((0 : Nat) : Int), .i .u8 ((0 : Nat) : Int), .i .i64 ((0 : Nat) : Int), .i .i64 ((0 : Nat) : Int), .i .i64 ((0 : Nat) : Int)]).flatten = Nay L0 := hzs
   obtain ⟨RES, hRES⟩ : ∃ R, NcK m (ksF 0) (a1 : Int) L0 = R := ⟨_, rfl⟩
   rw [hRES]
   have hV0 : RES = none → (match RES.map fun p => (N, p.1, p.2) with
    | none => failD
    | some (n, L, a) => .tup [.i .i64 (n : Int), .osl 5 L.length (Nay L), .b (a == (m.length : Int))]) = failD := fun h => by rw [h]; rfl
   have hV1 : ∀ L a, RES = some (L, a) → (match RES.map fun p => (N, p.1, p.2) with
    | none => failD
    | some (n, L, a) => .tup [.i .i64 (n : Int), .osl 5 L.length (Nay L), .b (a == (m.length : Int))]) = .tup [.i .i64 (N : Int), .osl 5 L.length (Nay L), .b (a == (m.length : Int))] := fun L a h => by rw [h]; rfl
   generalize (match RES.map fun p => (N, p.1, p.2) with
    | none => failD
    | some (n, L, a) => PV.tup [.i .i64 (n : Int), .osl 5 L.length (Nay L), .b (a == (m.length : Int))]) = V at hV0 hV1 ⊢
   have hneg : ¬ (n : Int) < 0 := by omega
   have hmx : n * 40 ≤ maxBytes := by unfold maxBytes; omega
   (try rw [Z0])
   (try simp (maxSteps := 2000000) (disch := first | omega | rfl | assumption) only [↓Xp, ↓Xt, Xq, Xc, Nac, Naa, Nat.reduceAdd, Nat.reduceMul, Nat.reduceLT, Nat.reduceEqDiff, reduceIte, Xa, Xn, unP, Nau, Nav, Nao, Xm, Nat.reduceLeDiff, List.nil_append, List.cons_append, g0, cu4, cu5, hzs2, Int.toNat_natCast])
   (try rw [Z0])
   (try simp (maxSteps := 2000000) (disch := first | omega | rfl | assumption) only [↓Xp, ↓Xt, Xq, Xc, Nac, Naa, Nat.reduceAdd, Nat.reduceMul, Nat.reduceLT, Nat.reduceEqDiff, reduceIte, Xa, Xn, unP, Nau, Nav, Nao, Xm, Nat.reduceLeDiff, List.nil_append, List.cons_append, g0, cu4, cu5, hzs2, Int.toNat_natCast])
   (try rw [Z0])
   (try simp (maxSteps := 2000000) (disch := first | omega | rfl | assumption) only [↓Xp, ↓Xt, Xq, Xc, Nac, Naa, Nat.reduceAdd, Nat.reduceMul, Nat.reduceLT, Nat.reduceEqDiff, reduceIte, Xa, Xn, unP, Nau, Nav, Nao, Xm, Nat.reduceLeDiff, List.nil_append, List.cons_append, g0, cu4, cu5, hzs2, Int.toNat_natCast])
   (try rw [Z0])
   (try simp (maxSteps := 2000000) (disch := first | omega | rfl | assumption) only [↓Xp, ↓Xt, Xq, Xc, Nac, Naa, Nat.reduceAdd, Nat.reduceMul, Nat.reduceLT, Nat.reduceEqDiff, reduceIte, Xa, Xn, unP, Nau, Nav, Nao, Xm, Nat.reduceLeDiff, List.nil_append, List.cons_append, g0, cu4, cu5, hzs2, Int.toNat_natCast])
   (try rw [Z0])
   (try simp (maxSteps := 2000000) (disch := first | omega | rfl | assumption) only [↓Xp, ↓Xt, Xq, Xc, Nac, Naa, Nat.reduceAdd, Nat.reduceMul, Nat.reduceLT, Nat.reduceEqDiff, reduceIte, Xa, Xn, unP, Nau, Nav, Nao, Xm, Nat.reduceLeDiff, List.nil_append, List.cons_append, g0, cu4, cu5, hzs2, Int.toNat_natCast])
   (try rw [Z0])
   (try simp (maxSteps := 2000000) (disch := first | omega | rfl | assumption) only [↓Xp, ↓Xt, Xq, Xc, Nac, Naa, Nat.reduceAdd, Nat.reduceMul, Nat.reduceLT, Nat.reduceEqDiff, reduceIte, Xa, Xn, unP, Nau, Nav, Nao, Xm, Nat.reduceLeDiff, List.nil_append, List.cons_append, g0, cu4, cu5, hzs2, Int.toNat_natCast])
   (try rw [Z0])
   (try simp (maxSteps := 2000000) (disch := first | omega | rfl | assumption) only [↓Xp, ↓Xt, Xq, Xc, Nac, Naa, Nat.reduceAdd, Nat.reduceMul, Nat.reduceLT, Nat.reduceEqDiff, reduceIte, Xa, Xn, unP, Nau, Nav, Nao, Xm, Nat.reduceLeDiff, List.nil_append, List.cons_append, g0, cu4, cu5, hzs2, Int.toNat_natCast])
   refine Nd7 (fun x => ∃ (L : List Ev) (a : Nat) (kL : Nat), RES = some (L, (a : Int)) ∧ x.env.get 0 = v ∧ x.env.get 7 = .i .u64 (N : Int) ∧ x.env.get 8 = .i .i64 (a : Int) ∧ x.env.get 11 = .rsl kL 5 0 n ∧ x.st.get kL = some (.cells (Nay L) false) ∧ L.length = n ∧ kL < x.st.cnt) ?_ ?_
   ·rw [Z0]
    simp (disch := first | omega | rfl | assumption) only [↓Xp, ↓Xt, Xq, Xc, Nac, Naa, Nat.reduceAdd, Nat.reduceMul, Nat.reduceLT, Nat.reduceEqDiff, reduceIte, Xa, Xn, unP, Nau, Nav, Nao, Xl, Nat.reduceLeDiff, g0]
    refine Z9 (k := 5 - 0) (fun q x => ∃ (c : Nat) (L : List Ev) (a : Nat) (kL : Nat), q = 5 - c ∧ c ≤ 5 ∧ NcK m (ksF c) (a : Int) L = RES ∧ a ≤ m.length ∧ x.env.get 0 = v ∧ x.env.get 7 = .i .u64 (N : Int) ∧ x.env.get 8 = .i .i64 (a : Int) ∧ x.env.get 11 = .rsl kL 5 0 n ∧ x.env.get 12 = .i .i64 (c : Int) ∧ x.st.get kL = some (.cells (Nay L) false) ∧ L.length = n ∧ kL < x.st.cnt) ?_ ?_ (by omega)
    ·clear g0
     rintro q ⟨env, ⟨sto, cc⟩⟩ ⟨c, L, a, kL, rfl, hc, hR, ha, g0, g7, g8, g11, g12, hkL, hLl, hkc⟩
     simp only at g0 g7 g8 g11 g12 hkc
     by_cases hlt : c < 5
     ·rw [Njj hlt] at hR
      obtain ⟨CV, hCV⟩ : ∃ CV, NgQ m c n n 0 0 true (a : Int) = CV := ⟨_, rfl⟩
      have hR1 : CV = none → RES = none := fun h => by
       rw [← hR]; unfold NcK; rw [hLl, hCV, h]
      have hR2 : ∀ vs a', CV = some (vs, a') → NcK m (ksF (c + 1)) a' (NiY c L vs) = RES := fun vs a' h => by
       rw [← hR]
       conv => rhs; unfold NcK
       rw [hLl, hCV, h]
      rw [Z0]
      rw [Z0]
      simp (disch := first | omega | rfl | assumption) only [↓Xp, ↓Xt, Xq, Xc, Nac, Naa, Nat.reduceAdd, Nat.reduceMul, Nat.reduceLT, Nat.reduceEqDiff, reduceIte, Xa, Xn, unP, Nau, Nav, Nao, Xl, Nat.reduceLeDiff, g0, g7, g8, g11, g12]
      (try rw [Z0])
      (try simp (maxSteps := 2000000) (disch := first | omega | rfl | assumption) only [↓Xp, ↓Xt, Xq, Xc, Nac, Naa, Nat.reduceAdd, Nat.reduceMul, Nat.reduceLT, Nat.reduceEqDiff, reduceIte, Xa, Xn, unP, Nau, Nav, Nao, Xm, Nat.reduceLeDiff, List.nil_append, List.cons_append, g0, g7, g8, g11, g12])
      rw [Z0]
      simp (disch := first | omega | rfl | assumption) only [↓Xp, ↓Xt, Xq, Xc, Nac, Naa, Nat.reduceAdd, Nat.reduceMul, Nat.reduceLT, Nat.reduceEqDiff, reduceIte, Xa, Xn, unP, Nau, Nav, Nao, Xl, Nat.reduceLeDiff, g0, g7, g8, g11, g12]
      refine NpJ (fun x => ∃ (P : List Int) (a' : Nat), CV = some (P, (a' : Int)) ∧ a' ≤ m.length ∧ P.length = n ∧ x.env.get 0 = v ∧ x.env.get 7 = .i .u64 (N : Int) ∧ x.env.get 8 = .i .i64 (a' : Int) ∧ x.env.get 11 = .rsl kL 5 0 n ∧ x.env.get 12 = .i .i64 (c : Int) ∧ x.st.get kL = some (.cells (Nay (NbL c L P)) false) ∧ kL < x.st.cnt) ?_ ?_
      ·rw [Z0]
       simp (disch := first | omega | rfl | assumption) only [↓Xp, ↓Xt, Xq, Xc, Nac, Naa, Nat.reduceAdd, Nat.reduceMul, Nat.reduceLT, Nat.reduceEqDiff, reduceIte, Xa, Xn, unP, Nau, Nav, Nao, Xl, Nat.reduceLeDiff, g0, g7, g8, g11, g12]
       rw [Z0]
       simp (disch := first | omega | rfl | assumption) only [↓Xp, ↓Xt, Xq, Xc, Nac, Naa, Nat.reduceAdd, Nat.reduceMul, Nat.reduceLT, Nat.reduceEqDiff, reduceIte, Xa, Xn, unP, Nau, Nav, Nao, Xl, Nat.reduceLeDiff, g0, g7, g8, g11, g12]
       refine Z9 (k := n - 0) (fun q x => ∃ (i : Nat) (P : List Int) (z last : Int) (a f : Nat), q = n - i ∧ i ≤ n ∧ P.length = i ∧ n - i ≤ f ∧ a ≤ m.length ∧ Nee P (NgQ m c f (n - i) z last (decide (i = 0)) (a : Int)) = CV ∧ x.env.get 0 = v ∧ x.env.get 7 = .i .u64 (N : Int) ∧ x.env.get 8 = .i .i64 (a : Int) ∧ x.env.get 11 = .rsl kL 5 0 n ∧ x.env.get 12 = .i .i64 (c : Int) ∧ x.env.get 13 = .i .i64 z ∧ x.env.get 14 = .i .i64 last ∧ x.env.get 15 = .i .i64 (i : Int) ∧ x.st.get kL = some (.cells (Nay (NbL c L P)) false) ∧ kL < x.st.cnt) ?_ ?_ (by omega)
       ·clear g0 g7 g8 g11 g12 hkL hkc
        rintro q ⟨env, ⟨sto, cc⟩⟩ ⟨i, P, z, last, a, f, rfl, hi, hPl, hf2, ha, hC, g0, g7, g8, g11, g12, g13, g14, g15, hkL, hkc⟩
        simp only at g0 g7 g8 g11 g12 g13 g14 g15 hkc
        by_cases hil : i < n
        ·obtain ⟨f, rfl⟩ : ∃ g, f = g + 1 := ⟨f - 1, by omega⟩
         obtain ⟨hs1, hs2, hs3⟩ := Nlq hC (by omega)
         have cia := fun st key => ci st key (a : Int)
         obtain ⟨df, hdf⟩ : ∃ d, (Na5 m (a : Int)).1 = d := ⟨_, rfl⟩
         obtain ⟨na, hna⟩ : ∃ d, (Na5 m (a : Int)).2.1 = d := ⟨_, rfl⟩
         obtain ⟨ge, hgee⟩ : ∃ d, (Na5 m (a : Int)).2.2 = d := ⟨_, rfl⟩
         rw [hdf, hna, hgee] at hs3
         rw [hgee] at hs1
         rw [hna, hdf] at hs2
         simp only [hdf, hna, hgee] at cia
         by_cases h10 : ge = 0
         ·subst h10
          have hfst : (decide (i = 0) = false ∧ df = last) ↔ (0 < i ∧ df = last) := by simp; omega
          by_cases h11 : 0 < i ∧ df = last
          ·have hc0 := hs2 (.inr (.inr (.inr (hfst.2 h11))))
           have hbe : (df == last) = true := by rw [h11.2]; exact beq_self_eq_true _
           have hi0 := h11.1
           simp (disch := first | omega | rfl | assumption) only [↓Z0, ↓Xp, ↓Xt, Xq, Xc, Nac, Naa, Nat.reduceAdd, Nat.reduceMul, Nat.reduceLT, Nat.reduceEqDiff, reduceIte, Xm, Nat.reduceLeDiff, Xa, Xn, unP, Nau, Nav, Nao, g0, g7, g8, g11, g12, g13, g14, g15, cia, hbe]
           refine ⟨nofun, _, rfl, ?_⟩
           simp only [Naz, ↓Z0, ↓Xp, ↓Xt, Xq, Xc, Nac, Naa, Nat.reduceAdd, Nat.reduceMul, Nat.reduceLT, Nat.reduceEqDiff, reduceIte]
           rw [hV0 (hR1 hc0)]
           exact hfl _
          have cub := fun st key => cu st key na
          obtain ⟨rn, hrn⟩ : ∃ d, (Nax m na).1 = d := ⟨_, rfl⟩
          obtain ⟨ra, hra⟩ : ∃ d, (Nax m na).2.1 = d := ⟨_, rfl⟩
          obtain ⟨re, hre⟩ : ∃ d, (Nax m na).2.2 = d := ⟨_, rfl⟩
          rw [hrn, hra, hre] at hs3
          rw [hrn, hre] at hs2
          simp only [hrn, hra, hre] at cub
          have hrlt := Nbx m na
          rw [hrn] at hrlt
          have h11' : ¬ (decide (i = 0) = false ∧ df = last) := fun h => h11 (hfst.1 h)
          have hwni : IntKind.u64.wrap ((n : Int) - (i : Int)) = ((n - i : Nat) : Int) := by
           rw [Nbm _ ⟨by omega, by omega⟩]; omega
          have hbe : 0 < i → (df == last) = false := fun h => by
           simp only [beq_eq_false_iff_ne, ne_eq]
           exact fun e => h11 ⟨h, e⟩
          by_cases h12 : re ≠ 0 ∨ rn < 1 ∨ n - i < rn
          ·have hc0 := hs2 (by rcases h12 with h | h | h; exact .inl h; exact .inr (.inl h); exact .inr (.inr (.inl h)))
           rcases Nat.eq_zero_or_pos i with hi0 | hi0
           ·subst hi0
            by_cases h13 : re = 0
            ·by_cases h14 : rn < 1
             ·simp (disch := first | omega | rfl | assumption) only [↓Z0, ↓Xp, ↓Xt, Xq, Xc, Nac, Naa, Nat.reduceAdd, Nat.reduceMul, Nat.reduceLT, Nat.reduceEqDiff, reduceIte, Xm, Nat.reduceLeDiff, Xa, Xn, unP, Nau, Nav, Nao, g0, g7, g8, g11, g12, g13, g14, g15, cia, cub, hwni]
              refine ⟨nofun, _, rfl, ?_⟩
              simp only [Naz, ↓Z0, ↓Xp, ↓Xt, Xq, Xc, Nac, Naa, Nat.reduceAdd, Nat.reduceMul, Nat.reduceLT, Nat.reduceEqDiff, reduceIte]
              rw [hV0 (hR1 hc0)]
              exact hfl _
             ·simp (disch := first | omega | rfl | assumption) only [↓Z0, ↓Xp, ↓Xt, Xq, Xc, Nac, Naa, Nat.reduceAdd, Nat.reduceMul, Nat.reduceLT, Nat.reduceEqDiff, reduceIte, Xm, Nat.reduceLeDiff, Xa, Xn, unP, Nau, Nav, Nao, g0, g7, g8, g11, g12, g13, g14, g15, cia, cub, hwni]
              refine ⟨nofun, _, rfl, ?_⟩
              simp only [Naz, ↓Z0, ↓Xp, ↓Xt, Xq, Xc, Nac, Naa, Nat.reduceAdd, Nat.reduceMul, Nat.reduceLT, Nat.reduceEqDiff, reduceIte]
              rw [hV0 (hR1 hc0)]
              exact hfl _
            ·simp (disch := first | omega | rfl | assumption) only [↓Z0, ↓Xp, ↓Xt, Xq, Xc, Nac, Naa, Nat.reduceAdd, Nat.reduceMul, Nat.reduceLT, Nat.reduceEqDiff, reduceIte, Xm, Nat.reduceLeDiff, Xa, Xn, unP, Nau, Nav, Nao, g0, g7, g8, g11, g12, g13, g14, g15, cia, cub, hwni]
             refine ⟨nofun, _, rfl, ?_⟩
             simp only [Naz, ↓Z0, ↓Xp, ↓Xt, Xq, Xc, Nac, Naa, Nat.reduceAdd, Nat.reduceMul, Nat.reduceLT, Nat.reduceEqDiff, reduceIte]
             rw [hV0 (hR1 hc0)]
             exact hfl _
           ·have hbe' := hbe hi0
            by_cases h13 : re = 0
            ·by_cases h14 : rn < 1
             ·simp (disch := first | omega | rfl | assumption) only [↓Z0, ↓Xp, ↓Xt, Xq, Xc, Nac, Naa, Nat.reduceAdd, Nat.reduceMul, Nat.reduceLT, Nat.reduceEqDiff, reduceIte, Xm, Nat.reduceLeDiff, Xa, Xn, unP, Nau, Nav, Nao, g0, g7, g8, g11, g12, g13, g14, g15, cia, cub, hwni, hbe']
              refine ⟨nofun, _, rfl, ?_⟩
              simp only [Naz, ↓Z0, ↓Xp, ↓Xt, Xq, Xc, Nac, Naa, Nat.reduceAdd, Nat.reduceMul, Nat.reduceLT, Nat.reduceEqDiff, reduceIte]
              rw [hV0 (hR1 hc0)]
              exact hfl _
             ·simp (disch := first | omega | rfl | assumption) only [↓Z0, ↓Xp, ↓Xt, Xq, Xc, Nac, Naa, Nat.reduceAdd, Nat.reduceMul, Nat.reduceLT, Nat.reduceEqDiff, reduceIte, Xm, Nat.reduceLeDiff, Xa, Xn, unP, Nau, Nav, Nao, g0, g7, g8, g11, g12, g13, g14, g15, cia, cub, hwni, hbe']
              refine ⟨nofun, _, rfl, ?_⟩
              simp only [Naz, ↓Z0, ↓Xp, ↓Xt, Xq, Xc, Nac, Naa, Nat.reduceAdd, Nat.reduceMul, Nat.reduceLT, Nat.reduceEqDiff, reduceIte]
              rw [hV0 (hR1 hc0)]
              exact hfl _
            ·simp (disch := first | omega | rfl | assumption) only [↓Z0, ↓Xp, ↓Xt, Xq, Xc, Nac, Naa, Nat.reduceAdd, Nat.reduceMul, Nat.reduceLT, Nat.reduceEqDiff, reduceIte, Xm, Nat.reduceLeDiff, Xa, Xn, unP, Nau, Nav, Nao, g0, g7, g8, g11, g12, g13, g14, g15, cia, cub, hwni, hbe']
             refine ⟨nofun, _, rfl, ?_⟩
             simp only [Naz, ↓Z0, ↓Xp, ↓Xt, Xq, Xc, Nac, Naa, Nat.reduceAdd, Nat.reduceMul, Nat.reduceLT, Nat.reduceEqDiff, reduceIte]
             rw [hV0 (hR1 hc0)]
             exact hfl _
          have h13 : re = 0 := Classical.byContradiction fun h => h12 (.inl h)
          have h14 : ¬ rn < 1 := fun h => h12 (.inr (.inl h))
          have h15 : ¬ n - i < rn := fun h => h12 (.inr (.inr h))
          subst h13
          obtain ⟨hr0, hr1⟩ := hs3 rfl (by simp only [not_or]; exact ⟨by simp, h14, h15, h11'⟩)
          obtain ⟨hna0, _, rest3, hd3, hn3, hle3⟩ := hokU (a := na) hre
          rw [hra] at hle3 hn3
          obtain ⟨a2, rfl⟩ : ∃ a : Nat, ra = a := ⟨ra.toNat, by omega⟩
          obtain ⟨RV, hRV⟩ : ∃ RV, Nh8 c rn z df = RV := ⟨_, rfl⟩
          rw [hRV] at hr0 hr1
          (try rw [Z0])
          (try simp (maxSteps := 2000000) (disch := first | omega | rfl | assumption) only [↓Xp, ↓Xt, Xq, Xc, Nac, Naa, Nat.reduceAdd, Nat.reduceMul, Nat.reduceLT, Nat.reduceEqDiff, reduceIte, Xa, Xn, unP, Nau, Nav, Nao, Xm, Nat.reduceLeDiff, List.nil_append, List.cons_append, Nao, g0, g7, g8, g11, g12, g13, g14, g15, cia])
          (try rw [Z0])
          (try simp (maxSteps := 2000000) (disch := first | omega | rfl | assumption) only [↓Xp, ↓Xt, Xq, Xc, Nac, Naa, Nat.reduceAdd, Nat.reduceMul, Nat.reduceLT, Nat.reduceEqDiff, reduceIte, Xa, Xn, unP, Nau, Nav, Nao, Xm, Nat.reduceLeDiff, List.nil_append, List.cons_append, Nao, g0, g7, g8, g11, g12, g13, g14, g15, cia])
          (try rw [Z0])
          (try simp (maxSteps := 2000000) (disch := first | omega | rfl | assumption) only [↓Xp, ↓Xt, Xq, Xc, Nac, Naa, Nat.reduceAdd, Nat.reduceMul, Nat.reduceLT, Nat.reduceEqDiff, reduceIte, Xa, Xn, unP, Nau, Nav, Nao, Xm, Nat.reduceLeDiff, List.nil_append, List.cons_append, Nao, g0, g7, g8, g11, g12, g13, g14, g15, cia])
          refine Nd7 (fun x => x.env.get 0 = v ∧ x.env.get 7 = .i .u64 (N : Int) ∧ x.env.get 11 = .rsl kL 5 0 n ∧ x.env.get 12 = .i .i64 (c : Int) ∧ x.env.get 13 = .i .i64 z ∧ x.env.get 15 = .i .i64 (i : Int) ∧ x.env.get 16 = .i .i64 df ∧ x.env.get 17 = .i .i64 na ∧ x.st.sto = sto ∧ cc ≤ x.st.cnt) ?_ ?_
          ·rcases Nat.eq_zero_or_pos i with hi0 | hi0
           ·subst hi0
            simp (disch := first | omega | rfl | assumption) only [↓Z0, ↓Xp, ↓Xt, Xq, Xc, Nac, Naa, Nat.reduceAdd, Nat.reduceMul, Nat.reduceLT, Nat.reduceEqDiff, reduceIte, Xl, Nat.reduceLeDiff, Xa, Xn, g0, g7, g8, g11, g12, g13, g14, g15]
           ·have hbe' := hbe hi0
            simp (disch := first | omega | rfl | assumption) only [↓Z0, ↓Xp, ↓Xt, Xq, Xc, Nac, Naa, Nat.reduceAdd, Nat.reduceMul, Nat.reduceLT, Nat.reduceEqDiff, reduceIte, Xl, Nat.reduceLeDiff, Xa, Xn, g0, g7, g8, g11, g12, g13, g14, g15, hbe']
          clear g0 g7 g8 g11 g12 g13 g14 g15
          rintro ⟨env, ⟨sto', cc'⟩⟩ ⟨g0, g7, g11, g12, g13, g15, g16, g17, hso, hcc⟩
          simp only at g0 g7 g11 g12 g13 g15 g16 g17 hso hcc
          subst hso
          (try rw [Z0])
          (try simp (maxSteps := 2000000) (disch := first | omega | rfl | assumption) only [↓Xp, ↓Xt, Xq, Xc, Nac, Naa, Nat.reduceAdd, Nat.reduceMul, Nat.reduceLT, Nat.reduceEqDiff, reduceIte, Xa, Xn, unP, Nau, Nav, Nao, Xm, Nat.reduceLeDiff, List.nil_append, List.cons_append, Nao, g0, g7, g11, g12, g13, g15, g16, g17, cub, hwni])
          (try rw [Z0])
          (try simp (maxSteps := 2000000) (disch := first | omega | rfl | assumption) only [↓Xp, ↓Xt, Xq, Xc, Nac, Naa, Nat.reduceAdd, Nat.reduceMul, Nat.reduceLT, Nat.reduceEqDiff, reduceIte, Xa, Xn, unP, Nau, Nav, Nao, Xm, Nat.reduceLeDiff, List.nil_append, List.cons_append, Nao, g0, g7, g11, g12, g13, g15, g16, g17, cub, hwni])
          (try rw [Z0])
          (try simp (maxSteps := 2000000) (disch := first | omega | rfl | assumption) only [↓Xp, ↓Xt, Xq, Xc, Nac, Naa, Nat.reduceAdd, Nat.reduceMul, Nat.reduceLT, Nat.reduceEqDiff, reduceIte, Xa, Xn, unP, Nau, Nav, Nao, Xm, Nat.reduceLeDiff, List.nil_append, List.cons_append, Nao, g0, g7, g11, g12, g13, g15, g16, g17, cub, hwni])
          refine Nd7 (fun x => ∃ (Q' : List Int) (z' : Int), RV = some (Q', z') ∧ Q'.length = rn ∧ x.env.get 0 = v ∧ x.env.get 7 = .i .u64 (N : Int) ∧ x.env.get 11 = .rsl kL 5 0 n ∧ x.env.get 12 = .i .i64 (c : Int) ∧ x.env.get 13 = .i .i64 z' ∧ x.env.get 15 = .i .i64 ((i + rn : Nat) : Int) ∧ x.env.get 16 = .i .i64 df ∧ x.env.get 20 = .i .i64 (a2 : Int) ∧ x.st.get kL = some (.cells (Nay (NbL c L (P ++ Q'))) false) ∧ kL < x.st.cnt) ?_ ?_
          ·rw [Z0]
           simp (disch := first | omega | rfl | assumption) only [↓Xp, ↓Xt, Xq, Xc, Nac, Naa, Nat.reduceAdd, Nat.reduceMul, Nat.reduceLT, Nat.reduceEqDiff, reduceIte, Xa, Xn, unP, Nau, Nav, Nao, Xl, Nat.reduceLeDiff]
           have hpS : ∀ Q' : List Int, Q'.length < rn → (P ++ Q').length < L.length := fun Q' h => by rw [List.length_append]; omega
           refine Z9 (k := rn - 0) (fun q x => ∃ (kk : Nat) (Q' : List Int) (z' : Int), q = rn - kk ∧ kk ≤ rn ∧ Q'.length = kk ∧ ((Nh8 c (rn - kk) z' df).map fun p => (Q' ++ p.1, p.2)) = RV ∧ x.env.get 0 = v ∧ x.env.get 7 = .i .u64 (N : Int) ∧ x.env.get 11 = .rsl kL 5 0 n ∧ x.env.get 12 = .i .i64 (c : Int) ∧ x.env.get 13 = .i .i64 z' ∧ x.env.get 15 = .i .i64 ((i + kk : Nat) : Int) ∧ x.env.get 16 = .i .i64 df ∧ x.env.get 19 = .i .u64 (rn : Int) ∧ x.env.get 20 = .i .i64 (a2 : Int) ∧ x.env.get 21 = .i .u64 (kk : Int) ∧ x.st.get kL = some (.cells (Nay (NbL c L (P ++ Q'))) false) ∧ kL < x.st.cnt) ?_ ?_ (by omega)
           ·clear g0 g7 g11 g12 g13 g15 g16 g17
            rintro q ⟨env, ⟨sto, cq⟩⟩ ⟨kk, Q', z', rfl, hkk, hQl, hrv, g0, g7, g11, g12, g13, g15, g16, g19, g20, g21, hkL, hkc⟩
            simp only at g0 g7 g11 g12 g13 g15 g16 g19 g20 g21 hkc
            obtain ⟨ik, hik⟩ : ∃ ik, i + kk = ik := ⟨_, rfl⟩
            rw [hik] at g15
            by_cases hkr : kk < rn
            ·rw [show rn - kk = (rn - kk - 1) + 1 by omega] at hrv
             unfold Nh8 at hrv
             have hwz := NjP z' df
             obtain ⟨z2, hz2⟩ : ∃ z2, IntKind.i64.wrap (z' + df) = z2 := ⟨_, rfl⟩
             rw [hz2] at hwz hrv
             have hwk : IntKind.u64.wrap (((kk + 1 : Nat) : Int)) = ((kk + 1 : Nat) : Int) := Nbm _ ⟨by omega, by omega⟩
             by_cases hok : Nds c z2 = true
             ·rw [if_pos hok] at hrv
              have hpl := hpS Q' (by omega)
              have hPQ : (P ++ Q').length = ik := by rw [List.length_append]; omega
              have hsl : (NbL c L (P ++ Q')).length = L.length := NhK (by omega)
              have hst := NfN (k := c) hpl z2
              rw [hPQ] at hst
              have hld := fun N => NmS (show St.get ⟨sto, N⟩ kL = _ from hkL) (i := ik) (by omega)
              have hwk2 := fun st key => No9 (callE := NaB cfg fuel) hx3 st key ((NbL c L (P ++ Q')).getD ik .zero) hlt z2
              have hsv := fun N => NlE (show St.get ⟨sto, N⟩ kL = _ from hkL) (i := ik) (by omega) (Nkx c ((NbL c L (P ++ Q')).getD ik .zero) z2)
              have hrv' : (Nh8 c (rn - (kk + 1)) z2 df).map (fun p => ((Q' ++ [z2]) ++ p.1, p.2)) = RV := by
               rw [← hrv, Option.map_map, show rn - (kk + 1) = rn - kk - 1 by omega]
               congr 1
               funext p
               simp
              have hcol : c = 1 → 0 ≤ z2 ∧ z2 ≤ 255 := fun h => by
               subst h
               simpa [Nds] using hok
              by_cases hc1 : c = 1
              ·obtain ⟨hz0, hz1⟩ := hcol hc1
               subst hc1
               simp (disch := first | omega | rfl | assumption) only [↓Z0, ↓Xp, ↓Xt, Xq, Xc, Nac, Naa, Nat.reduceAdd, Nat.reduceMul, Nat.reduceLT, Nat.reduceEqDiff, reduceIte, Xl, Nat.reduceLeDiff, Xa, Xn, Nao, g0, g7, g11, g12, g13, g15, g16, g19, g20, g21, hwz, hld, hwk2, hsv, hwk]
               exact ⟨rn - (kk + 1), by omega, kk + 1, Q' ++ [z2], z2, rfl, by omega, by rw [List.length_append, hQl]; rfl, hrv', rfl, by rw [← hik, Nat.add_assoc], rfl, by rw [hst, List.append_assoc]⟩
              ·simp (disch := first | omega | rfl | assumption) only [↓Z0, ↓Xp, ↓Xt, Xq, Xc, Nac, Naa, Nat.reduceAdd, Nat.reduceMul, Nat.reduceLT, Nat.reduceEqDiff, reduceIte, Xl, Nat.reduceLeDiff, Xa, Xn, Nao, g0, g7, g11, g12, g13, g15, g16, g19, g20, g21, hwz, hld, hwk2, hsv, hwk]
               exact ⟨rn - (kk + 1), by omega, kk + 1, Q' ++ [z2], z2, rfl, by omega, by rw [List.length_append, hQl]; rfl, hrv', rfl, by rw [← hik, Nat.add_assoc], rfl, by rw [hst, List.append_assoc]⟩
             ·rw [if_neg hok] at hrv
              have hc0 := hR1 (hr0 hrv.symm)
              by_cases hc1 : c = 1
              ·subst hc1
               have hzz : z2 < 0 ∨ 255 < z2 := by
                by_cases h1 : z2 < 0
                ·exact .inl h1
                ·by_cases h2 : 255 < z2
                 ·exact .inr h2
                 ·exact absurd (by simp [Nds]; omega) hok
               rcases hzz with hz | hz
               ·simp (disch := first | omega | rfl | assumption) only [↓Z0, ↓Xp, ↓Xt, Xq, Xc, Nac, Naa, Nat.reduceAdd, Nat.reduceMul, Nat.reduceLT, Nat.reduceEqDiff, reduceIte, Xl, Nat.reduceLeDiff, Xa, Xn, Nao, g0, g7, g11, g12, g13, g15, g16, g19, g20, g21, hwz]
                refine ⟨nofun, _, rfl, ?_⟩
                simp only [Naz, ↓Z0, ↓Xp, ↓Xt, Xq, Xc, Nac, Naa, Nat.reduceAdd, Nat.reduceMul, Nat.reduceLT, Nat.reduceEqDiff, reduceIte]
                rw [hV0 hc0]
                exact hfl _
               ·simp (disch := first | omega | rfl | assumption) only [↓Z0, ↓Xp, ↓Xt, Xq, Xc, Nac, Naa, Nat.reduceAdd, Nat.reduceMul, Nat.reduceLT, Nat.reduceEqDiff, reduceIte, Xl, Nat.reduceLeDiff, Xa, Xn, Nao, g0, g7, g11, g12, g13, g15, g16, g19, g20, g21, hwz]
                refine ⟨nofun, _, rfl, ?_⟩
                simp only [Naz, ↓Z0, ↓Xp, ↓Xt, Xq, Xc, Nac, Naa, Nat.reduceAdd, Nat.reduceMul, Nat.reduceLT, Nat.reduceEqDiff, reduceIte]
                rw [hV0 hc0]
                exact hfl _
              ·exact absurd (by unfold Nds; split; exact absurd rfl hc1; rfl) hok
            ·have hke : kk = rn := by omega
             subst hke
             rw [Nat.sub_self] at hrv
             simp (disch := first | omega | rfl | assumption) only [↓Z0, ↓Xp, ↓Xt, Xq, Xc, Nac, Naa, Nat.reduceAdd, Nat.reduceMul, Nat.reduceLT, Nat.reduceEqDiff, reduceIte, Xl, Nat.reduceLeDiff, Xa, Xn, Nao, g0, g7, g11, g12, g13, g15, g16, g19, g20, g21]
             refine ⟨Q', z', ?_, hQl, rfl, by rw [hik], hkL⟩
             rw [← hrv]; simp [Nh8]
           ·refine ⟨0, [], z, rfl, by omega, rfl, ?_, ?_⟩
            ·rw [Nat.sub_zero, hRV]
             cases RV <;> rfl
            ·simp only [Env.get_put, Nat.reduceEqDiff, if_false, if_true, g0, g7, g11, g12, g13, g15, g16, List.append_nil]
             exact ⟨trivial, trivial, trivial, trivial, trivial, rfl, trivial, trivial, trivial, trivial, hkL, by omega⟩
          ·clear g0 g7 g11 g12 g13 g15 g16 g17
           rintro ⟨env, ⟨sto, cq⟩⟩ ⟨Q', z', hrv, hQl, g0, g7, g11, g12, g13, g15, g16, g20, hkL, hkc⟩
           simp only at g0 g7 g11 g12 g13 g15 g16 g20 hkc
           have hC2 := hr1 _ _ hrv
           have hdc : decide (i + rn = 0) = false := by simp; omega
           simp (disch := first | omega | rfl | assumption) only [↓Z0, ↓Xp, ↓Xt, Xq, Xc, Nac, Naa, Nat.reduceAdd, Nat.reduceMul, Nat.reduceLT, Nat.reduceEqDiff, reduceIte, Xl, Nat.reduceLeDiff, Xa, Xn, Nao, g0, g7, g11, g12, g13, g15, g16, g20]
           refine ⟨n - (i + rn), by omega, i + rn, P ++ Q', z', df, a2, f, rfl, by omega, by rw [List.length_append]; omega, by omega, by omega, ?_, rfl, rfl, rfl, rfl, hkL⟩
           rw [hC2, hdc, Nat.sub_sub]
         ·have hc0 := hs1 h10
          simp (disch := first | omega | rfl | assumption) only [↓Z0, ↓Xp, ↓Xt, Xq, Xc, Nac, Naa, Nat.reduceAdd, Nat.reduceMul, Nat.reduceLT, Nat.reduceEqDiff, reduceIte, Xm, Nat.reduceLeDiff, Xa, Xn, unP, Nau, Nav, Nao, g0, g7, g8, g11, g12, g13, g14, g15, cia]
          refine ⟨nofun, _, rfl, ?_⟩
          simp only [Naz, ↓Z0, ↓Xp, ↓Xt, Xq, Xc, Nac, Naa, Nat.reduceAdd, Nat.reduceMul, Nat.reduceLT, Nat.reduceEqDiff, reduceIte]
          rw [hV0 (hR1 hc0)]
          exact hfl _
        ·have hie : i = n := by omega
         subst hie
         rw [Nat.sub_self, Nky] at hC
         simp (disch := first | omega | rfl | assumption) only [↓Z0, ↓Xp, ↓Xt, Xq, Xc, Nac, Naa, Nat.reduceAdd, Nat.reduceMul, Nat.reduceLT, Nat.reduceEqDiff, reduceIte, Xl, Nat.reduceLeDiff, Xa, Xn, Nao, g0, g7, g8, g11, g12, g13, g14, g15]
         refine ⟨P, a, by rw [← hC]; simp [Nee], ha, hPl, rfl, hkL⟩
       ·refine ⟨0, [], 0, 0, a, n, rfl, by omega, rfl, by omega, ha, by rw [Nfd]; exact hCV, ?_⟩
        simp only [Env.get_put, Nat.reduceEqDiff, if_false, if_true, g0, g7, g8, g11, g12, NhF]
        exact ⟨trivial, trivial, trivial, trivial, trivial, rfl, rfl, trivial, hkL, by omega⟩
      ·clear g0 g7 g8 g11 g12 hkL hkc
       rintro ⟨env, ⟨sto, cc⟩⟩ ⟨P, a', hC, ha', hPl, g0, g7, g8, g11, g12, hkL, hkc⟩
       simp only at g0 g7 g8 g11 g12 hkc
       simp (disch := first | omega | rfl | assumption) only [↓Z0, ↓Xp, ↓Xt, Xq, Xc, Nac, Naa, Nat.reduceAdd, Nat.reduceMul, Nat.reduceLT, Nat.reduceEqDiff, reduceIte, Xl, Nat.reduceLeDiff, Xa, Xn, g0, g7, g8, g11, g12]
       rw [Nhs (by omega)] at hkL
       refine ⟨5 - (c + 1), by omega, c + 1, NiY c L P, a', kL, rfl, by omega, hR2 _ _ hC, ha', rfl, rfl, rfl, hkL, ?_⟩
       rw [NeA (by omega)]; exact ⟨hLl, by omega⟩
     ·have hce : c = 5 := by omega
      subst hce
      simp (disch := first | omega | rfl | assumption) only [↓Z0, ↓Xp, ↓Xt, Xq, Xc, Nac, Naa, Nat.reduceAdd, Nat.reduceMul, Nat.reduceLT, Nat.reduceEqDiff, reduceIte, Xl, Nat.reduceLeDiff, Xa, Xn, g0, g7, g8, g11, g12]
      refine ⟨L, a, kL, ?_, rfl, rfl, hkL, hLl, by omega⟩
      rw [← hR]; rfl
    ·refine ⟨0, L0, a1, c + 288, rfl, by omega, hRES, by omega, ?_⟩
     simp only [Env.get_put, Nat.reduceEqDiff, if_false, if_true, g0]
     exact ⟨trivial, trivial, trivial, trivial, trivial, by rw [Nh3]; exact St.get_putk _ _ _, hL0l, by omega⟩
   ·clear g0
    rintro ⟨env, ⟨sto, cc⟩⟩ ⟨L, a, kL, hre, g0, g7, g8, g11, hkL, hLl, hkc⟩
    simp only at g0 g7 g8 g11 hkc
    have hwN : IntKind.i64.wrap (N : Int) = (N : Int) := NaK _ ⟨by omega, by omega⟩
    rw [hV1 L a hre]
    simp (disch := first | omega | rfl | assumption) only [↓Xp, ↓Xt, Xq, Xc, Nac, Naa, Nat.reduceAdd, Nat.reduceMul, Nat.reduceLT, Nat.reduceEqDiff, reduceIte, Xa, Xn, unP, Nau, Nav, Nao, Xl, Nat.reduceLeDiff, ↓Z0, hlv, g0, g7, g8, g11, hwN]
    refine ⟨nofun, _, rfl, ?_⟩
    simp only [Naz, ↓Z0, ↓Xp, ↓Xt, Xq, Xc, Nac, Naa, Nat.reduceAdd, Nat.reduceMul, Nat.reduceLT, Nat.reduceEqDiff, reduceIte]
    rw [← hLl]
    exact Nbj (pre := [.i .i64 (N : Int)]) (post := [.b _]) (.inr ⟨kL, rfl, hkL, by rw [NaI], by (try simp only); omega⟩) rfl rfl (NbQ L) (by decide)
  ·rw [if_pos (.inl h02)]
   simp (disch := first | omega | rfl | assumption) only [↓Z0, ↓Xp, ↓Xt, Xq, Xc, Nac, Naa, Nat.reduceAdd, Nat.reduceMul, Nat.reduceLT, Nat.reduceEqDiff, reduceIte, Xm, Nat.reduceLeDiff, Xa, Xn, unP, Nau, Nav, Nao, g0, cu4, cu5]
   refine ⟨nofun, _, rfl, ?_⟩
   simp only [Naz, ↓Z0, ↓Xp, ↓Xt, Xq, Xc, Nac, Naa, Nat.reduceAdd, Nat.reduceMul, Nat.reduceLT, Nat.reduceEqDiff, reduceIte]
   exact hfl _
 ·rw [if_pos (.inl h0)]
  simp (disch := first | omega | rfl | assumption) only [↓Z0, ↓Xp, ↓Xt, Xq, Xc, Nac, Naa, Nat.reduceAdd, Nat.reduceMul, Nat.reduceLT, Nat.reduceEqDiff, reduceIte, Xm, Nat.reduceLeDiff, Xa, Xn, unP, Nau, Nav, Nao, g0, cu4]
  refine ⟨nofun, _, rfl, ?_⟩
  simp only [Naz, ↓Z0, ↓Xp, ↓Xt, Xq, Xc, Nac, Naa, Nat.reduceAdd, Nat.reduceMul, Nat.reduceLT, Nat.reduceEqDiff, reduceIte]
  exact hfl _
end Go.Pe
