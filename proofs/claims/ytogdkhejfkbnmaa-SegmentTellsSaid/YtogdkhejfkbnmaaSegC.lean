/-
 Segments: heads made and read, by the interpreter of plain data. No condition.
-/
import Derived.Test.YtogdkhejfkbnmaaSegB
set_option linter.unusedVariables false
set_option linter.unusedSimpArgs false
set_option maxHeartbeats 8000000
set_option maxRecDepth 100000
namespace Go.Pe
open Go Go.Am Go.RowKit

def NgT (first : Nat) : List UInt8 := NaD (ams1 ++ Nah first)
def NdT (first : Int) : PV := if first < 0 ∨ 4611686018427387904 < first then .tup [.nsl, .i .i64 2] else .tup [.osl 1 (NgT first.toNat).length (Nab (NgT first.toNat)), .i .i64 0]
theorem NlD {cfg : Cfg} (hf : cfg.fn 11 = some m11) (hx1 : cfg.ext 34 = some NfA) (hx3 : cfg.ext 31 = some NfJ) {first : Int} {fuel : Nat} :
 ∃ r st', NaB cfg (fuel + 1) 11 [.i .i64 first] { sto := .leaf, cnt := 1 } = some (r, st') ∧ Naq st' r = some (NdT first) := by
 refine Naw hf ?_
 unfold m11
 by_cases h1 : first < 0 ∨ 4611686018427387904 < first
 ·have hp : NdT first = .tup [.nsl, .i .i64 2] := by unfold NdT; rw [if_pos h1]
  rw [hp]
  by_cases ha : first < 0
  ·simp (disch := first | omega | rfl | assumption) only [Nae, ↓Z0, ↓Xp, ↓Xt, Xq, Xc, Nac, Naa, Nat.reduceAdd, Nat.reduceMul, Nat.reduceLT, Nat.reduceEqDiff, reduceIte, Xm, Nat.reduceLeDiff, Xa, Xn]
   refine ⟨nofun, _, rfl, ?_⟩
   simp only [Naz, ↓Z0, ↓Xp, ↓Xt, Xq, Xc, Nac, Naa, Nat.reduceAdd, Nat.reduceMul, Nat.reduceLT, Nat.reduceEqDiff, reduceIte]
   exact Nal rfl
  have hb : 4611686018427387904 < first := by rcases h1 with h | h; exact absurd h ha; exact h
  simp (disch := first | omega | rfl | assumption) only [Nae, ↓Z0, ↓Xp, ↓Xt, Xq, Xc, Nac, Naa, Nat.reduceAdd, Nat.reduceMul, Nat.reduceLT, Nat.reduceEqDiff, reduceIte, Xm, Nat.reduceLeDiff, Xa, Xn]
  refine ⟨nofun, _, rfl, ?_⟩
  simp only [Naz, ↓Z0, ↓Xp, ↓Xt, Xq, Xc, Nac, Naa, Nat.reduceAdd, Nat.reduceMul, Nat.reduceLT, Nat.reduceEqDiff, reduceIte]
  exact Nal rfl
 have hp : NdT first = .tup [.osl 1 (NgT first.toNat).length (Nab (NgT first.toNat)), .i .i64 0] := by unfold NdT; rw [if_neg h1]
 rw [hp]
 clear hp
 obtain ⟨p, rfl⟩ : ∃ n : Nat, first = (n : Int) := ⟨first.toNat, by omega⟩
 rw [Int.toNat_natCast]
 have hvl := NaY p
 have hb4 : Nca [.i .u8 (Int.ofNat 0), .i .u8 (Int.ofNat 0), .i .u8 (Int.ofNat 0), .i .u8 (Int.ofNat 0)] [(0, 1, .i .u8 (Int.ofNat 65)), (1, 1, .i .u8 (Int.ofNat 77)), (2, 1, .i .u8 (Int.ofNat 83)), (3, 1, .i .u8 (Int.ofNat 49))] = some (Nab ams1) := rfl
 have wp : IntKind.u64.wrap (p : Int) = (p : Int) := Nbm _ ⟨by omega, by omega⟩
 have hb4l : (Nab ams1).length = 4 := rfl
 refine Za (fun x => x.env.get 0 = .i .i64 (p : Int)) ?_ ?_
 ·simp (disch := first | omega | rfl | assumption) only [Nae, ↓Z0, ↓Xp, ↓Xt, Xq, Xc, Nac, Naa, Nat.reduceAdd, Nat.reduceMul, Nat.reduceLT, Nat.reduceEqDiff, reduceIte]
 rintro ⟨env, ⟨sto, c⟩⟩ g0
 simp only at g0
 refine Za (fun x => x.env.get 0 = .i .i64 (p : Int)) ?_ ?_
 ·simp (disch := first | omega | rfl | assumption) only [↓Z0, ↓Xp, ↓Xt, Xq, Xc, Nac, Naa, Nat.reduceAdd, Nat.reduceMul, Nat.reduceLT, Nat.reduceEqDiff, reduceIte, Xa, Xn, g0]
 clear g0
 rintro ⟨env, ⟨sto, c⟩⟩ g0
 simp only at g0
 simp (disch := first | omega | rfl | assumption) only [↓Z0, ↓Xp, ↓Xt, Xq, Xc, Nac, Naa, Nat.reduceAdd, Nat.reduceMul, Nat.reduceLT, Nat.reduceEqDiff, reduceIte, g0, hb4, NkR, wp, hb4l, Nat.mul_one]
 refine NeB hx1 (L := ams1) (St.get_putk _ _ _) (by decide) (by omega) ?_
 intro st1 k1 c1 f1
 refine Nbp (L := NgT p) (Nes (Nej (fz := false) k1)) ?_ (by simp only [Z0L_, Nb2] at c1; omega) ?_
 ·rw [Nad hx3]
  unfold NfJ
  simp only [NbD]
  rw [if_pos (by rw [List.length_append]; show 4 + _ + 4 ≤ _; omega)]
  rfl
 intro st2 o2 k2 c2 f2
 refine ⟨nofun, _, rfl, ?_⟩
 simp only [Naz, ↓Z0, ↓Xp, ↓Xt, Xq, Xc, Nac, Naa, Nat.reduceAdd, Nat.reduceMul, Nat.reduceLT, Nat.reduceEqDiff, reduceIte]
 exact Nbj (pre := []) (post := [.i .i64 0]) o2 rfl rfl (Nbh _) (by decide)
def Nm0 : List PV → Option PV
 | [.s a, .s p] => some (.b (a.take p.length == p))
 | _ => none
theorem Nof (args : List PV) (r : PV) (h : Nm0 args = some r) : ∃ fuel, evP cfgE0 fuel 73 args = some r := by
 unfold Nm0 at h
 split at h
 ·rename_i a p
  simp only [Sj] at h
  subst h
  refine ⟨0 + 1, Nbe (by kernel_rfl) rfl (fun _ => rfl) (Naw (by kernel_rfl : cfgE0.fn 73 = some m73) ?_)⟩
  unfold m73
  by_cases hl : p.length ≤ a.length
  ·have hb : Nbk (some (.i .i64 (p.length : Int))) a.length a.length = some p.length := by
    rw [Ncd ⟨by omega, by omega⟩, Int.toNat_natCast]
   simp (disch := first | omega | rfl | assumption) only [Nae, ↓Z0, ↓Xp, ↓Xt, Xq, Xc, Nac, Naa, Nat.reduceAdd, Nat.reduceMul, Nat.reduceLT, Nat.reduceEqDiff, reduceIte, Xm, Nat.reduceLeDiff, Xa, Xn, hb, Option.map_some, Nat.sub_zero, Z0B_]
   refine ⟨nofun, _, rfl, ?_⟩
   simp only [Naz, ↓Z0, ↓Xp, ↓Xt, Xq, Xc, Nac, Naa, Nat.reduceAdd, Nat.reduceMul, Nat.reduceLT, Nat.reduceEqDiff, reduceIte, List.drop_zero]
  ·have hb : (a.take p.length == p) = false := by
    rw [beq_eq_false_iff_ne]
    intro e
    have := congrArg List.length e
    rw [List.length_take] at this
    omega
   simp (disch := first | omega | rfl | assumption) only [Nae, ↓Z0, ↓Xp, ↓Xt, Xq, Xc, Nac, Naa, Nat.reduceAdd, Nat.reduceMul, Nat.reduceLT, Nat.reduceEqDiff, reduceIte, Xm, Nat.reduceLeDiff, Xa, Xn]
   refine ⟨nofun, _, rfl, ?_⟩
   simp only [Naz, ↓Z0, ↓Xp, ↓Xt, Xq, Xc, Nac, Naa, Nat.reduceAdd, Nat.reduceMul, Nat.reduceLT, Nat.reduceEqDiff, reduceIte, hb]
 ·simp at h
def Nrr : FuncId → Option (List PV → Option PV) := fun f => if f = 73 then some Nm0 else none
noncomputable def cfgS0 : Cfg := { fn := fun f => Nbr f tblL, ext := Nrr }
theorem NnV {Gl : Gmap} : CfgOK Go.Proofs.Try.prog Gl cfgS0 := by
 refine NaP NaQ ?_
 intro f g h
 unfold Nrr at h
 split at h
 ·rename_i e; simp only [Sj] at h; subst h; subst e
  exact Nam Nbg Nof
 ·simp at h
theorem Nqj (args : List PV) (r : PV) (h : Nm0 args = some r) : ∃ fuel, evP cfgS0 fuel 44 args = some r := by
 unfold Nm0 at h
 split at h
 ·rename_i a p
  simp only [Sj] at h
  subst h
  refine ⟨0 + 1, Nbe (by kernel_rfl) rfl (fun _ => rfl) (Naw (by kernel_rfl : cfgS0.fn 44 = some m44) ?_)⟩
  unfold m44
  have hc : ∀ (st : St) key, Naf (Nag cfgS0 (NaB cfgS0 0) 73) false st key [.s a, .s p] = some (.b (a.take p.length == p), st) := by
   intro st key
   refine Nap rfl ?_ rfl
   rw [Nad (by kernel_rfl : cfgS0.ext 73 = some Nm0)]; rfl
  simp (disch := first | omega | rfl | assumption) only [Nae, ↓Z0, ↓Xp, ↓Xt, Xq, Xc, Nac, Naa, Nat.reduceAdd, Nat.reduceMul, Nat.reduceLT, Nat.reduceEqDiff, reduceIte, hc]
  refine ⟨nofun, _, rfl, ?_⟩
  simp only [Naz, ↓Z0, ↓Xp, ↓Xt, Xq, Xc, Nac, Naa, Nat.reduceAdd, Nat.reduceMul, Nat.reduceLT, Nat.reduceEqDiff, reduceIte]
 ·simp at h
def NbM (b : List UInt8) : Nat × Int × Int :=
 if (ams1.take (b.take 4).length == b.take 4) = false then (0, 0, 10)
 else if b.length < 4 then (0, 0, 11)
 else if (Nax b 4).2.2 = 0 ∧ 4611686018427387904 < (Nax b 4).1 then (0, 0, 10)
 else if (Nax b 4).2.2 ≠ 0 then (0, 0, (Nax b 4).2.2)
 else if (b.length : Int) < (Nax b 4).2.1 + 4 then (0, 0, 11)
 else if NaD (b.take (Nax b 4).2.1.toNat) = b.take ((Nax b 4).2.1.toNat + 4) then ((Nax b 4).1, (Nax b 4).2.1 + 4, 0) else (0, 0, 12)
def NkE (p : Nat × Int × Int) : PV := .tup [.i .i64 (p.1 : Int), .i .i64 p.2.1, .i .i64 p.2.2]
theorem Ng1 {v : PV} {l : List UInt8} (h : inL v = some l) {a : Nat} (ha : a ≤ l.length) : ∃ v', Nby 1 none (some (.i .i64 (a : Int))) v = some v' ∧ inL v' = some (l.take a) := by
 by_cases hl : l = []
 ·subst hl
  have h0 : a = 0 := by simpa using ha
  subst h0
  unfold inL at h
  split at h
  ·exact ⟨.nsl, rfl, rfl⟩
  ·rename_i n cs
   split at h
   ·split at h
    ·rename_i l' hl' hn
     simp only [Sj] at h
     subst h
     have hcs := Ncy hl'
     subst hcs
     subst hn
     exact ⟨.fsl 0 [], rfl, rfl⟩
    ·simp at h
   ·simp at h
  ·simp at h
 ·exact ⟨_, Nib h ha hl, NiU ha⟩
theorem Nqf {cfg : Cfg} (hf : cfg.fn 37 = some m37) (hx1 : cfg.ext 44 = some Nm0) (hx2 : cfg.ext 45 = some NcM) (hx3 : cfg.ext 43 = some Ncj) {v : PV} {l : List UInt8} (hv : inL v = some l) (hl : l.length ≤ 140737488355000) {fuel : Nat} :
 ∃ r st', NaB cfg (fuel + 1) 37 [v] { sto := .leaf, cnt := 1 } = some (r, st') ∧ r = NkE (NbM l) := by
 refine Naw hf ?_
 unfold m37
 have hlv := Nba hv
 obtain ⟨K, hK⟩ : ∃ K, (l.take 4) = K := ⟨_, rfl⟩
 obtain ⟨k4, hk4⟩ : ∃ k, min l.length 4 = k := ⟨_, rfl⟩
 have hKl : K.length = k4 := by rw [← hK, List.length_take]; omega
 have hKt : l.take k4 = K := by
  rw [← hK]
  rcases Nat.lt_or_ge l.length 4 with h | h
  ·rw [show k4 = l.length by omega, List.take_length, List.take_of_length_le (by omega)]
  ·rw [show k4 = 4 by omega]
 obtain ⟨w, hsl, hw⟩ := Ng1 hv (a := k4) (by omega)
 rw [hKt] at hw
 have hlw := Nba hw
 rw [hKl] at hlw
 have hmin : NmK (.i .i64 (l.length : Int)) [.i .i64 (Int.ofNat 4)] = some (.i .i64 (k4 : Int)) := by
  unfold NmK
  rw [if_pos rfl]
  unfold NmK
  congr 2
  show (if (4 : Int) < (l.length : Int) then (4 : Int) else (l.length : Int)) = _
  split <;> omega
 have cp : ∀ (st : St) key, Naf (Nag cfg (NaB cfg fuel) 44) false st key [.s ams1, .s K] = some (.b (ams1.take K.length == K), st) := by
  intro st key
  refine Nap rfl ?_ rfl
  rw [Nad hx1]; rfl
 have cu : ∀ (st : St) (key : Nat) (a : Int), Naf (Nag cfg (NaB cfg fuel) 45) false st key [v, .i .i64 a] = some (.tup [.i .u64 ((Nax l a).1 : Int), .i .i64 (Nax l a).2.1, .i .i64 (Nax l a).2.2], st) := by
  intro st key a
  refine Nap (by simp only [List.all_cons, Na3 hv, List.all_nil, Bool.and_self, Bool.true_and]; rfl) ?_ rfl
  rw [Nad hx2]
  unfold NcM
  simp only [hv]
  rw [if_pos (by omega)]
  rfl
 have hcw := fun st => NbA (st := st) hw
 have hbK := NaW K
 have hams : ([65, 77, 83, 49] : List UInt8) = ams1 := rfl
 refine Za (fun x => x.env.get 0 = v) ?_ ?_
 ·simp (disch := first | omega | rfl | assumption) only [↓Z0, ↓Xp, ↓Xt, Xq, Xc, Nac, Naa, Nat.reduceAdd, Nat.reduceMul, Nat.reduceLT, Nat.reduceEqDiff, reduceIte, Xm, Nat.reduceLeDiff, Xa, Xn, Nae]
  (repeat' (first | exact True.intro | rfl | assumption | omega | apply And.intro | exact St.get_putk _ _ _ | refine ⟨_, rfl, ?_⟩))
 rintro ⟨env, ⟨sto, c⟩⟩ g0
 simp only at g0
 refine Za (fun x => x.env.get 0 = v ∧ x.env.get 5 = w) ?_ ?_
 ·simp only [↓Z0, ↓Xp, ↓Xt, Xq, Xc, Nac, Naa, Nat.reduceAdd, Nat.reduceMul, Nat.reduceLT, Nat.reduceEqDiff, reduceIte, Xm, Nat.reduceLeDiff, g0, hlv, hmin, hsl]
  (repeat' (first | exact True.intro | rfl | assumption | omega | apply And.intro | exact St.get_putk _ _ _ | refine ⟨_, rfl, ?_⟩))
 clear g0
 rintro ⟨env, ⟨sto, c⟩⟩ ⟨g0, g5⟩
 simp only at g0 g5
 unfold NbM
 rw [hK]
 by_cases h1 : (ams1.take K.length == K) = false
 ·rw [if_pos h1]
  simp only [h1] at cp
  simp only [↓Z0, ↓Xp, ↓Xt, Xq, Xc, Nac, Naa, Nat.reduceAdd, Nat.reduceMul, Nat.reduceLT, Nat.reduceEqDiff, reduceIte, g0, g5, hcw, hbK, hams, cp, unP]
  refine ⟨nofun, _, rfl, ?_⟩
  simp only [Naz, ↓Z0, ↓Xp, ↓Xt, Xq, Xc, Nac, Naa, Nat.reduceAdd, Nat.reduceMul, Nat.reduceLT, Nat.reduceEqDiff, reduceIte]
  rfl
 have h1' : (ams1.take K.length == K) = true := by simpa using h1
 rw [if_neg h1]
 simp only [h1'] at cp
 refine Za (fun x => x.env.get 0 = v ∧ x.env.get 5 = w) ?_ ?_
 ·simp only [↓Z0, ↓Xp, ↓Xt, Xq, Xc, Nac, Naa, Nat.reduceAdd, Nat.reduceMul, Nat.reduceLT, Nat.reduceEqDiff, reduceIte, Xm, Nat.reduceLeDiff, g0, g5, hcw, hbK, hams, cp, unP]
  (repeat' (first | exact True.intro | rfl | assumption | omega | apply And.intro | exact St.get_putk _ _ _ | refine ⟨_, rfl, ?_⟩))
 clear g0 g5
 rintro ⟨env, ⟨sto, c⟩⟩ ⟨g0, g5⟩
 simp only at g0 g5
 by_cases h2 : l.length < 4
 ·rw [if_pos h2]
  simp (disch := first | omega | rfl | assumption) only [↓Z0, ↓Xp, ↓Xt, Xq, Xc, Nac, Naa, Nat.reduceAdd, Nat.reduceMul, Nat.reduceLT, Nat.reduceEqDiff, reduceIte, Xm, Nat.reduceLeDiff, Xa, Xn, g0, g5, hlw, cu]
  refine ⟨nofun, _, rfl, ?_⟩
  simp only [Naz, ↓Z0, ↓Xp, ↓Xt, Xq, Xc, Nac, Naa, Nat.reduceAdd, Nat.reduceMul, Nat.reduceLT, Nat.reduceEqDiff, reduceIte]
  rfl
 rw [if_neg h2]
 have hk : k4 = 4 := by omega
 subst hk
 obtain ⟨p, hp⟩ : ∃ p, Nax l 4 = p := ⟨_, rfl⟩
 have hp' : Nax l ((4 : Nat) : Int) = p := hp
 have hok := @NbY l 4
 have hlt := Nbx l 4
 have cu4 := fun st key => cu st key ((4 : Nat) : Int)
 simp only [hp'] at cu4
 simp only [hp] at hok hlt ⊢
 obtain ⟨n, nx, e⟩ := p
 simp only at hok hlt cu4 ⊢
 clear cu hp hp'
 refine Za (fun x => x.env.get 0 = v ∧ x.env.get 5 = w ∧ x.env.get 6 = .i .u64 (n : Int) ∧ x.env.get 7 = .i .i64 nx ∧ x.env.get 8 = .i .i64 e) ?_ ?_
 ·simp (disch := first | omega | rfl | assumption) only [↓Z0, ↓Xp, ↓Xt, Xq, Xc, Nac, Naa, Nat.reduceAdd, Nat.reduceMul, Nat.reduceLT, Nat.reduceEqDiff, reduceIte, Xm, Nat.reduceLeDiff, Xa, Xn, g0, g5, hlw, cu4]
  (repeat' (first | exact True.intro | rfl | assumption | omega | apply And.intro | exact St.get_putk _ _ _ | refine ⟨_, rfl, ?_⟩))
 clear g0 g5
 rintro ⟨env, ⟨sto, c⟩⟩ ⟨g0, g5, g6, g7, g8⟩
 simp only at g0 g5 g6 g7 g8
 by_cases h3 : e = 0 ∧ 4611686018427387904 < n
 ·rw [if_pos h3]
  simp (disch := first | omega | rfl | assumption) only [↓Z0, ↓Xp, ↓Xt, Xq, Xc, Nac, Naa, Nat.reduceAdd, Nat.reduceMul, Nat.reduceLT, Nat.reduceEqDiff, reduceIte, Xa, Xn, g0, g5, g6, g7, g8, hlw]
  refine ⟨nofun, _, rfl, ?_⟩
  simp only [Naz, ↓Z0, ↓Xp, ↓Xt, Xq, Xc, Nac, Naa, Nat.reduceAdd, Nat.reduceMul, Nat.reduceLT, Nat.reduceEqDiff, reduceIte]
  rfl
 rw [if_neg h3]
 by_cases h4 : e ≠ 0
 ·rw [if_pos h4]
  simp (disch := first | omega | rfl | assumption) only [↓Z0, ↓Xp, ↓Xt, Xq, Xc, Nac, Naa, Nat.reduceAdd, Nat.reduceMul, Nat.reduceLT, Nat.reduceEqDiff, reduceIte, Xa, Xn, g0, g5, g6, g7, g8, hlw]
  refine ⟨nofun, _, rfl, ?_⟩
  simp only [Naz, ↓Z0, ↓Xp, ↓Xt, Xq, Xc, Nac, Naa, Nat.reduceAdd, Nat.reduceMul, Nat.reduceLT, Nat.reduceEqDiff, reduceIte]
  rfl
 rw [if_neg h4]
 obtain ⟨_, _, _, _, q1, q2⟩ := hok (by omega)
 obtain ⟨y, rfl⟩ : ∃ y : Nat, nx = y := ⟨nx.toNat, by omega⟩
 have hx4 : ((y : Int) + 4) = ((y + 4 : Nat) : Int) := rfl
 by_cases h5 : (l.length : Int) < (y : Int) + 4
 ·rw [if_pos h5]
  by_cases he : n ≤ 4611686018427387904
  ·simp (disch := first | omega | rfl | assumption) only [↓Z0, ↓Xp, ↓Xt, Xq, Xc, Nac, Naa, Nat.reduceAdd, Nat.reduceMul, Nat.reduceLT, Nat.reduceEqDiff, reduceIte, Xa, Xn, g0, g5, g6, g7, g8, hlw, hlv]
   refine ⟨nofun, _, rfl, ?_⟩
   simp only [Naz, ↓Z0, ↓Xp, ↓Xt, Xq, Xc, Nac, Naa, Nat.reduceAdd, Nat.reduceMul, Nat.reduceLT, Nat.reduceEqDiff, reduceIte]
   rfl
  ·exact absurd ⟨by omega, by omega⟩ h3
 rw [if_neg h5]
 have hn : n ≤ 4611686018427387904 := by omega
 have he0 : e = 0 := by omega
 subst he0
 refine Za (fun x => x.env.get 0 = v ∧ x.env.get 5 = w ∧ x.env.get 6 = .i .u64 (n : Int) ∧ x.env.get 7 = .i .i64 (y : Int) ∧ x.env.get 8 = .i .i64 0) ?_ ?_
 ·simp (disch := first | omega | rfl | assumption) only [↓Z0, ↓Xp, ↓Xt, Xq, Xc, Nac, Naa, Nat.reduceAdd, Nat.reduceMul, Nat.reduceLT, Nat.reduceEqDiff, reduceIte, Xm, Nat.reduceLeDiff, Xa, Xn, g0, g5, g6, g7, g8, hlw, hlv]
  (repeat' (first | exact True.intro | rfl | assumption | omega | apply And.intro | exact St.get_putk _ _ _ | refine ⟨_, rfl, ?_⟩))
 clear g0 g5 g6 g7 g8
 rintro ⟨env, ⟨sto, c⟩⟩ ⟨g0, g5, g6, g7, g8⟩
 simp only at g0 g5 g6 g7 g8
 rw [Int.toNat_natCast]
 obtain ⟨B, hB⟩ : ∃ B, l.take (y + 4) = B := ⟨_, rfl⟩
 have hBl : B.length = y + 4 := by rw [← hB, List.length_take]; omega
 obtain ⟨u, hu, hui⟩ := Ng1 hv (a := y + 4) (by omega)
 rw [hB] at hui ⊢
 have hBt : B.take (B.length - 4) = l.take y := by rw [hBl, ← hB, List.take_take]; congr 1; omega
 have gU : Nag cfg (NaB cfg fuel) 43 [u] = some (Nb5 B) := by
  rw [Nad hx3]
  unfold Ncj
  simp only [hui]
  rw [if_pos (by omega)]
 have eU : Nb5 B = if NaD (l.take y) = B then .tup [NkS (l.take y), .i .i64 0] else .tup [.nsl, .i .i64 12] := by
  unfold Nb5
  rw [if_neg (by omega), hBt]
 have hdu : ∀ st, NaU st [u] = some [u] := fun st => NaA (by simp only [List.all_cons, Na3 hui, List.all_nil, Bool.and_self])
 by_cases h6 : NaD (l.take y) = B
 ·rw [if_pos h6] at eU ⊢
  rw [eU] at gU
  refine Za (fun x' => x'.env.get 6 = .i .u64 (n : Int) ∧ x'.env.get 7 = .i .i64 (y : Int)) ?_ ?_
  ·rw [Z0]
   simp (disch := first | omega | rfl | assumption) only [↓Xp, ↓Xt, Xq, Xc, Nac, Naa, Nat.reduceAdd, Nat.reduceMul, Nat.reduceLT, Nat.reduceEqDiff, reduceIte, Xa, Xn, g0, g5, g6, g7, g8, hu]
   rw [Nas (hdu _) gU (NdF _ 0)]
   obtain ⟨w', st', hr, hd⟩ := Ne0 ⟨sto, c + 80⟩ (c + 32) (l.take y) 0
   rw [hr]
   simp (disch := first | omega | rfl | assumption) only [↓Z0, ↓Xp, ↓Xt, Xq, Xc, Nac, Naa, Nat.reduceAdd, Nat.reduceMul, Nat.reduceLT, Nat.reduceEqDiff, reduceIte, Xm, Nat.reduceLeDiff, Xa, Xn, g0, g5, g6, g7, g8]
   (repeat' (first | exact True.intro | rfl | assumption | omega | apply And.intro))
  clear g0 g5 g6 g7 g8
  rintro ⟨env, ⟨sto, c⟩⟩ ⟨g6, g7⟩
  simp only at g6 g7
  simp (disch := first | omega | rfl | assumption) only [↓Z0, ↓Xp, ↓Xt, Xq, Xc, Nac, Naa, Nat.reduceAdd, Nat.reduceMul, Nat.reduceLT, Nat.reduceEqDiff, reduceIte, Xa, Xn, g6, g7]
  refine ⟨nofun, _, rfl, ?_⟩
  simp only [Naz, ↓Z0, ↓Xp, ↓Xt, Xq, Xc, Nac, Naa, Nat.reduceAdd, Nat.reduceMul, Nat.reduceLT, Nat.reduceEqDiff, reduceIte]
  rfl
 ·rw [if_neg h6] at eU ⊢
  rw [eU] at gU
  have c2 : ∀ (st : St) (key : Nat), Naf (Nag cfg (NaB cfg fuel) 43) false st key [u] = some (.tup [.nsl, .i .i64 12], st) := fun st key => Nas (hdu _) gU rfl
  simp (disch := first | omega | rfl | assumption) only [↓Z0, ↓Xp, ↓Xt, Xq, Xc, Nac, Naa, Nat.reduceAdd, Nat.reduceMul, Nat.reduceLT, Nat.reduceEqDiff, reduceIte, Xm, Nat.reduceLeDiff, Xa, Xn, g0, g5, g6, g7, g8, hu, c2]
  refine ⟨nofun, _, rfl, ?_⟩
  simp only [Naz, ↓Z0, ↓Xp, ↓Xt, Xq, Xc, Nac, Naa, Nat.reduceAdd, Nat.reduceMul, Nat.reduceLT, Nat.reduceEqDiff, reduceIte]
  rfl
theorem Njp {b : List UInt8} (h : (NbM b).2.2 = 0) : ∃ p : Nat, (NbM b).2.1 = p ∧ p ≤ b.length := by
 have hok := @NbY b 4
 unfold NbM at h ⊢
 by_cases h1 : (ams1.take (b.take 4).length == b.take 4) = false
 ·rw [if_pos h1] at h; simp at h
 rw [if_neg h1] at h ⊢
 by_cases h2 : b.length < 4
 ·rw [if_pos h2] at h; simp at h
 rw [if_neg h2] at h ⊢
 by_cases h3 : (Nax b 4).2.2 = 0 ∧ 4611686018427387904 < (Nax b 4).1
 ·rw [if_pos h3] at h; simp at h
 rw [if_neg h3] at h ⊢
 by_cases h4 : (Nax b 4).2.2 ≠ 0
 ·rw [if_pos h4] at h; exact absurd h h4
 rw [if_neg h4] at h ⊢
 obtain ⟨_, _, _, _, q1, q2⟩ := hok (by omega)
 by_cases h5 : (b.length : Int) < (Nax b 4).2.1 + 4
 ·rw [if_pos h5] at h; simp at h
 rw [if_neg h5] at h ⊢
 by_cases h6 : NaD (b.take (Nax b 4).2.1.toNat) = b.take ((Nax b 4).2.1.toNat + 4)
 ·rw [if_pos h6]
  refine ⟨((Nax b 4).2.1 + 4).toNat, ?_, by omega⟩
  show (Nax b 4).2.1 + 4 = _
  omega
 ·rw [if_neg h6] at h; simp at h
def Nmb : List PV → Option PV
 | [v] => match inL v with
   | some l => if l.length ≤ 140737488355000 then some (NkE (NbM l)) else none
   | none => none
 | _ => none
end Go.Pe
