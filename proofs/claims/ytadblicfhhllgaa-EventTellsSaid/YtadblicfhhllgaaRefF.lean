/-
 The document's answer for layer 3: a frame made, a frame read, by the interpreter of plain data. No condition.
-/
import Derived.Test.YtadblicfhhllgaaRefE
set_option linter.unusedVariables false
set_option linter.unusedSimpArgs false
set_option maxHeartbeats 8000000
set_option maxRecDepth 100000
namespace Go.Pe
open Go Go.Am Go.RowKit

def gRGet : List PV → Option PV
 | [v, .i .i64 at0, .agg [.i .i64 a0, .i .u8 a1, .i .i64 a2, .i .i64 a3, .i .i64 a4]] => match inL v with
   | some l => if 0 ≤ a1 ∧ a1 < 256 ∧ l.length ≤ 140737488355327 then some (Nlf (NbO l at0 ⟨a0, a1.toNat.toUInt8, a2, a3, a4⟩)) else none
   | none => none
 | _ => none
theorem Nh4 (args : List PV) (r : PV) (h : gRGet args = some r) : ∃ fuel, evP cfgR6 fuel 20 args = some r := by
 unfold gRGet at h
 split at h
 ·rename_i v at0 a0 a1 a2 a3 a4
  split at h
  ·rename_i l hl
   split at h
   ·rename_i hc
    simp only [Sj] at h
    subst h
    have ha := NgZ ⟨hc.1, hc.2.1⟩
    obtain ⟨r, st', h1, h2⟩ := Nmy (cfg := cfgR6) (by kernel_rfl) (by kernel_rfl) (by kernel_rfl) hl hc.2.2 (a := at0) (X := ⟨a0, a1.toNat.toUInt8, a2, a3, a4⟩) (fuel := 6) (Nat.le_refl _)
    refine ⟨6 + 1, Nby (by kernel_rfl) (NaT hl) ?_⟩
    unfold evC at h1
    simp only [ha] at h1
    exact ⟨r, st', h1, by rw [h2]; rfl⟩
   ·simp at h
  ·simp at h
 ·simp at h
def No1 : FuncId → Option (List PV → Option PV) := fun f => if f = 13 then some gRPut else if f = 20 then some gRGet else if f = 37 then some NdZ else if f = 38 then some NeL else if f = 41 then some NdT else none
noncomputable def cfgR7 : Cfg := { fn := fun f => NbX f tblL, ext := No1 }
theorem NhT {Gl : Gmap} : CfgOK Go.Proofs.Try.prog Gl cfgR7 := by
 refine Na7 Na5 ?_
 intro f g h
 unfold No1 at h
 split at h
 ·rename_i e; simp only [Sj] at h; subst h; subst e
  exact Nao Nd3 Nij
 split at h
 ·rename_i e; simp only [Sj] at h; subst h; subst e
  exact Nao Nd3 Nh4
 split at h
 ·rename_i e; simp only [Sj] at h; subst h; subst e
  exact Nao Nck Neh
 split at h
 ·rename_i e; simp only [Sj] at h; subst h; subst e
  exact Nao Nlj NjU
 split at h
 ·rename_i e; simp only [Sj] at h; subst h; subst e
  exact Nao Nft Ngp
 ·simp at h
theorem Nbm (e : Ev) : (evC e).take 5 = evC e := Eq.trans rfl rfl
theorem Nbk (e : Ev) : (evC e).length = 5 := Eq.trans rfl rfl
theorem Nbl (e : Ev) : (evC e).all PV.one = true := Eq.trans rfl rfl
def Nf5 (l : List Ev) (i : Nat) : Ev := if i = 0 then .zero else l.getD (i - 1) .zero
theorem NlI {l : List Ev} {i : Nat} (hi : i < l.length) : pts (Nf5 l i) (l.drop i) = pt (Nf5 l i) (l.getD i .zero) ++ pts (Nf5 l (i + 1)) (l.drop (i + 1)) := by
 have h : l.drop i = l.getD i .zero :: l.drop (i + 1) := by
  rw [List.drop_eq_getElem_cons hi]; simp [List.getD_eq_getElem?_getD, hi]
 rw [h]
 show pt _ _ ++ pts (l.getD i .zero) _ = _
 unfold Nf5
 rw [if_neg (show i + 1 ≠ 0 by omega), Nat.add_sub_cancel]
theorem Nj2 {cfg : Cfg} {callE : CallE} (hx : cfg.ext 13 = some gRPut) {w : PV} {L : List UInt8} (hw : inL w = some L) (hl : L.length + 60 ≤ 140737488355328) (X E : Ev) : Naj cfg callE 13 [w, .agg (evC X), .agg (evC E)] = some (.osl 1 (L ++ pt X E).length (Nab (L ++ pt X E))) := by
 rw [Nac hx]
 have h1 := E.O.toNat_lt
 have h2 := X.O.toNat_lt
 have h3 : ∀ c : UInt8, ((c.toNat : Int).toNat).toUInt8 = c := by
  intro c
  have := c.toNat_lt
  rw [Int.toNat_natCast, Nat.toUInt8]
  exact UInt8.toNat_inj.1 (by rw [UInt8.toNat_ofNat']; omega)
 unfold gRPut evC
 simp only [hw]
 rw [if_pos ⟨by omega, by omega, by omega, by omega, hl⟩, h3, h3]
theorem Njc {cfg : Cfg} (hf : cfg.fn 21 = some m21) (hx1 : cfg.ext 13 = some gRPut) (hx2 : cfg.ext 37 = some NdZ) (hx3 : cfg.ext 38 = some NeL) {v : PV} {l : List Ev} (hv : Nkd v l) (hl : l.length ≤ 140737488355327) {fuel : Nat} (hfu : 4100 ≤ fuel) :
 ∃ r st', NaH cfg (fuel + 1) 21 [v] { sto := .leaf, cnt := 1 } = some (r, st') ∧ Nav st' r = some (Nce l) := by
 refine NaD hf ?_
 unfold m21
 have hlv := Nd1 hv
 by_cases h0 : l = []
 ·subst h0
  rw [List.length_nil] at hlv
  simp (disch := first | omega | rfl | assumption) only [Nag, ↓Z0, ↓Xp, ↓Xt, Xq, Xc, Nad, Naa, Nat.reduceAdd, Nat.reduceMul, Nat.reduceLT, Nat.reduceEqDiff, reduceIte, Xm, Nat.reduceLeDiff, Xa, Xn, hlv]
  refine ⟨nofun, _, rfl, ?_⟩
  simp only [NaX, ↓Z0, ↓Xp, ↓Xt, Xq, Xc, Nad, Naa, Nat.reduceAdd, Nat.reduceMul, Nat.reduceLT, Nat.reduceEqDiff, reduceIte]
  rfl
 have hp : 0 < l.length := List.length_pos_iff.2 h0
 have hvc := Ndm hv h0
 subst hvc
 by_cases h1 : 4096 < l.length
 ·simp (disch := first | omega | rfl | assumption) only [Nag, ↓Z0, ↓Xp, ↓Xt, Xq, Xc, Nad, Naa, Nat.reduceAdd, Nat.reduceMul, Nat.reduceLT, Nat.reduceEqDiff, reduceIte, Xm, Nat.reduceLeDiff, Xa, Xn, hlv]
  refine ⟨nofun, _, rfl, ?_⟩
  simp only [NaX, ↓Z0, ↓Xp, ↓Xt, Xq, Xc, Nad, Naa, Nat.reduceAdd, Nat.reduceMul, Nat.reduceLT, Nat.reduceEqDiff, reduceIte]
  unfold Nce
  rw [if_neg h0, if_pos h1]
  rfl
 have hfr : Nce l = .tup [.osl 1 (Nb0 l).length (Nab (Nb0 l)), .i .i64 0] := by
  unfold Nce
  rw [if_neg h0, if_neg h1]
 rw [hfr]
 clear hfr
 refine Za (fun x => x.env.get 0 = .fsl l.length (Na4 l) ∧ x.st.cnt = 17) ?_ ?_
 ·simp (disch := first | omega | rfl | assumption) only [↓Z0, ↓Xp, ↓Xt, Xq, Xc, Nad, Naa, Nat.reduceAdd, Nat.reduceMul, Nat.reduceLT, Nat.reduceEqDiff, reduceIte, Xm, Nat.reduceLeDiff, Xa, Xn, Nag]
  (repeat' (first | exact True.intro | rfl | assumption | omega | apply And.intro | exact St.get_putk _ _ _ | refine ⟨_, rfl, ?_⟩))
 rintro ⟨env, ⟨sto, c⟩⟩ ⟨g0, hc⟩
 simp only at g0 hc
 subst hc
 refine Za (fun x => x.env.get 0 = .fsl l.length (Na4 l) ∧ x.st.cnt = 41) ?_ ?_
 ·simp (disch := first | omega | rfl | assumption) only [↓Z0, ↓Xp, ↓Xt, Xq, Xc, Nad, Naa, Nat.reduceAdd, Nat.reduceMul, Nat.reduceLT, Nat.reduceEqDiff, reduceIte, Xm, Nat.reduceLeDiff, Xa, Xn, g0, hlv]
  (repeat' (first | exact True.intro | rfl | assumption | omega | apply And.intro | exact St.get_putk _ _ _ | refine ⟨_, rfl, ?_⟩))
 clear g0
 rintro ⟨env, ⟨sto, c⟩⟩ ⟨g0, hc⟩
 simp only at g0 hc
 subst hc
 refine Za (fun x => x.env.get 0 = .fsl l.length (Na4 l) ∧ x.st.cnt = 65) ?_ ?_
 ·simp (disch := first | omega | rfl | assumption) only [↓Z0, ↓Xp, ↓Xt, Xq, Xc, Nad, Naa, Nat.reduceAdd, Nat.reduceMul, Nat.reduceLT, Nat.reduceEqDiff, reduceIte, Xm, Nat.reduceLeDiff, Xa, Xn, g0, hlv]
  (repeat' (first | exact True.intro | rfl | assumption | omega | apply And.intro | exact St.get_putk _ _ _ | refine ⟨_, rfl, ?_⟩))
 clear g0
 rintro ⟨env, ⟨sto, c⟩⟩ ⟨g0, hc⟩
 simp only at g0 hc
 subst hc
 refine Za (fun x => ∃ v4, x.env.get 4 = v4 ∧ x.env.get 0 = .fsl l.length (Na4 l) ∧ Own x.st 1 v4 (Nai l.length).length (Nab (Nai l.length)) ∧ 65 ≤ x.st.cnt) ?_ ?_
 ·simp (disch := first | omega | rfl | assumption) only [↓Z0, ↓Xp, ↓Xt, Xq, Xc, Nad, Naa, Nat.reduceAdd, Nat.reduceMul, Nat.reduceLT, Nat.reduceEqDiff, reduceIte, Xm, Nat.reduceLeDiff, Xa, Xn, g0, hlv]
  refine Ncq (L := Nai l.length) (Neq (Ne5 _ _ _)) ?_ (by first | omega | (simp only [Z0L_, NcW, Nat.add_assoc, Nat.reduceAdd]; omega) | (simp only; omega)) ?_
  ·rw [Nac hx2]
   unfold NdZ
   simp only [Int.toNat_natCast]
   rw [if_pos ⟨by omega, by omega⟩]
  intro st' ho hk hc' hg
  exact ⟨_, rfl, ho, by rw [hc']; show 65 ≤ 105; decide⟩
 clear g0
 rintro ⟨env, ⟨sto, c⟩⟩ ⟨v4, g4, g0, o4, hcc⟩
 simp only at g0 g4 hcc
 have hbody : NaU l = Nai l.length ++ pts .zero l := Ngs l _ _
 have hBL : (NaU l).length ≤ 10 + 41 * l.length := by
  have h1 := Nf9 l (Nai l.length) .zero
  have h2 := NbS l.length
  unfold NaU; omega
 refine Za (fun x => ∃ v4, x.env.get 4 = v4 ∧ Own x.st 1 v4 (NaU l).length (Nab (NaU l))) ?_ ?_
 ·rw [Z0]
  simp (disch := first | omega | rfl | assumption) only [↓Xp, ↓Xt, Xq, Xc, Nad, Naa, Nat.reduceAdd, Nat.reduceMul, Nat.reduceLT, Nat.reduceEqDiff, reduceIte, g0, g4]
  refine Z9 (k := l.length - 0) (fun d x => ∃ (i : Nat) (v4 : PV) (B : List UInt8), i ≤ l.length ∧ d = l.length - i ∧ B ++ pts (Nf5 l i) (l.drop i) = NaU l ∧ x.env.get 4 = v4 ∧ x.env.get 0 = .fsl l.length (Na4 l) ∧ x.env.get 5 = .i .i64 (i : Int) ∧ Own x.st 1 v4 B.length (Nab B) ∧ 65 ≤ x.st.cnt) ?_ ?_ (by omega)
  ·skip
   clear g0 g4 hcc
   rintro d ⟨env, ⟨sto, c⟩⟩ ⟨i, v4, B, hi, rfl, hB, g4, g0, g5, o4, hcc⟩
   simp only at g0 g4 g5 hcc
   by_cases hlt : i < l.length
   ·have hel := Nbt l
    have hBl : B.length ≤ (NaU l).length := by rw [← hB, List.length_append]; omega
    have hps := NlI hlt
    have hld := fun st => NhS (st := st) hlt
    by_cases h00 : i = 0
    ·have hpe : Nf5 l i = .zero := by unfold Nf5; rw [if_pos h00]
     simp (disch := first | omega | rfl | assumption) only [↓Z0, ↓Xp, ↓Xt, Xq, Xc, Nad, Naa, Nat.reduceAdd, Nat.reduceMul, Nat.reduceLT, Nat.reduceEqDiff, reduceIte, Xf, Nat.reduceLeDiff, Xa, Xn, g0, g4, g5, hlv, hel, hld]
     have hdl := Nme (.zero) (l.getD i .zero)
     rw [hpe] at hps hB
     refine NgF (L := B ++ pt (.zero) (l.getD i .zero)) (NhO (Own.deepV (o4.move (by first | omega | (simp only [Z0L_, NcW, Nat.add_assoc, Nat.reduceAdd]; omega) | (simp only; omega)) (fun j hj hc => by (try simp only at hc); first | rfl | (simp (disch := omega) only [Nde, Nc6]; done) | (simp (disch := omega) only [Nde, Nc6]; rfl)))) rfl rfl) (Nj2 hx1 o4.inV (by omega) .zero (l.getD i .zero)) (by first | omega | (simp only [Z0L_, NcW, Nat.add_assoc, Nat.reduceAdd]; omega) | (simp only; omega)) ?_
     intro st' ho hk hc' hg
     refine ⟨l.length - (i + 1), by omega, i + 1, _, B ++ pt (.zero) (l.getD i .zero), by omega, rfl, ?_, rfl, rfl, ?_, ?_⟩
     ·rw [← hB, hps, List.append_assoc]
     ·exact ho.move (by first | omega | (simp only [Z0L_, NcW, Nat.add_assoc, Nat.reduceAdd]; omega) | (simp only; omega)) (fun j hj hc => by (try simp only at hc); first | rfl | (simp (disch := omega) only [Nde, Nc6]; done) | (simp (disch := omega) only [Nde, Nc6]; rfl))
     ·simp only [Z0L_, NcW] at hc'; omega
    ·have hpe : Nf5 l i = l.getD (i - 1) .zero := by unfold Nf5; rw [if_neg h00]
     have hld' := fun st => NhS (st := st) (show i - 1 < l.length by omega)
     simp (disch := first | omega | rfl | assumption) only [↓Z0, ↓Xp, ↓Xt, Xq, Xc, Nad, Naa, Nat.reduceAdd, Nat.reduceMul, Nat.reduceLT, Nat.reduceEqDiff, reduceIte, Xf, Nat.reduceLeDiff, Xa, Xn, g0, g4, g5, hlv, hel, hld, hld', Nbk, Nbl, Nbm]
     have hdl := Nme (l.getD (i - 1) .zero) (l.getD i .zero)
     rw [hpe] at hps hB
     refine NgF (L := B ++ pt (l.getD (i - 1) .zero) (l.getD i .zero)) (NhO (Own.deepV (o4.move (by first | omega | (simp only [Z0L_, NcW, Nat.add_assoc, Nat.reduceAdd]; omega) | (simp only; omega)) (fun j hj hc => by (try simp only at hc); first | rfl | (simp (disch := omega) only [Nde, Nc6]; done) | (simp (disch := omega) only [Nde, Nc6]; rfl)))) rfl rfl) (Nj2 hx1 o4.inV (by omega) _ _) (by first | omega | (simp only [Z0L_, NcW, Nat.add_assoc, Nat.reduceAdd]; omega) | (simp only; omega)) ?_
     intro st' ho hk hc' hg
     refine ⟨l.length - (i + 1), by omega, i + 1, _, B ++ pt (l.getD (i - 1) .zero) (l.getD i .zero), by omega, rfl, ?_, rfl, rfl, ?_, ?_⟩
     ·rw [← hB, hps, List.append_assoc]
     ·exact ho.move (by first | omega | (simp only [Z0L_, NcW, Nat.add_assoc, Nat.reduceAdd]; omega) | (simp only; omega)) (fun j hj hc => by (try simp only at hc); first | rfl | (simp (disch := omega) only [Nde, Nc6]; done) | (simp (disch := omega) only [Nde, Nc6]; rfl))
     ·simp only [Z0L_, NcW] at hc'; omega
   ·have hi' : i = l.length := by omega
    subst hi'
    simp (disch := first | omega | rfl | assumption) only [↓Z0, ↓Xp, ↓Xt, Xq, Xc, Nad, Naa, Nat.reduceAdd, Nat.reduceMul, Nat.reduceLT, Nat.reduceEqDiff, reduceIte, Xa, Xn, g0, g4, g5, hlv]
    rw [List.drop_eq_nil_of_le (Nat.le_refl _)] at hB
    simp only [pts, List.append_nil] at hB
    exact ⟨v4, rfl, by rw [← hB]; exact o4.cnt (by omega)⟩
  ·refine ⟨0, v4, Nai l.length, by omega, rfl, by rw [hbody]; rfl, ?_⟩
   simp (disch := first | omega | rfl | assumption) only [↓Z0, ↓Xp, ↓Xt, Xq, Xc, Nad, Naa, Nat.reduceAdd, Nat.reduceMul, Nat.reduceLT, Nat.reduceEqDiff, reduceIte, g0, g4, NbT]
   exact ⟨o4.cnt (by omega), by omega⟩
 clear g0 g4
 rintro ⟨env, ⟨sto, c⟩⟩ ⟨v4, g4, o4⟩
 simp only at g4
 have hlo : NeU v4 = some (.i .i64 ((NaU l).length : Int)) := o4.len
 simp (disch := first | omega | rfl | assumption) only [↓Z0, ↓Xp, ↓Xt, Xq, Xc, Nad, Naa, Nat.reduceAdd, Nat.reduceMul, Nat.reduceLT, Nat.reduceEqDiff, reduceIte, Xa, Xn, g4, hlo]
 have hb6 : (NaU l).length ≤ 168000 := by omega
 refine Ncq (L := Nai (NaU l).length) (Neq (Ne5 _ _ _)) ?_ (by first | omega | (simp only [Z0L_, NcW, Nat.add_assoc, Nat.reduceAdd]; omega) | (simp only; omega)) ?_
 ·rw [Nac hx2]
  unfold NdZ
  simp only [Int.toNat_natCast]
  rw [if_pos ⟨by omega, by omega⟩]
 intro st1 o1 k1 c1 f1
 obtain ⟨w, hw, hwi⟩ := (show Own st1 1 v4 (NaU l).length (Nab (NaU l)) from o4.move (by rw [c1]; simp only; omega) (fun j hj hc => by
  simp only at hc
  rw [f1 j (by omega)]; rfl)).deepB
 simp only at c1
 refine Ncq (L := NaE (NaU l)) (Neq hw) ?_ (by omega) ?_
 ·rw [Nac hx3]
  unfold NeL
  simp only [hwi]
  rw [if_pos (by omega)]
 intro st2 o2 k2 c2 f2
 simp only [o2.cells, Nbs, if_true]
 have hvl := NbS (NaU l).length
 have hsl := Ndv (NaU l)
 refine Nfv (o1.move (by omega) fun j hj hc => f2 j (by simp only [keyOf_rsl, List.mem_singleton] at hj; omega)) (by omega) (by simp only [keyOf_rsl, List.mem_singleton]; omega) (by rw [Nah, Nat.mul_one]) (by decide) (by unfold maxBytes; omega) ?_
 intro v' st3 o3 c3 _ _
 refine ⟨nofun, _, rfl, ?_⟩
 simp only [NaX, ↓Z0, ↓Xp, ↓Xt, Xq, Xc, Nad, Naa, Nat.reduceAdd, Nat.reduceMul, Nat.reduceLT, Nat.reduceEqDiff, reduceIte]
 have hpos := NdI (NaU l).length
 obtain ⟨k, rfl, hk, hkl, _⟩ := o3.obj (by omega)
 have hfL : Nb0 l = Nai (NaU l).length ++ NaE (NaU l) := rfl
 rw [NaN, ← hfL] at hk
 have hlen : (Nai (NaU l).length).length + (NaE (NaU l)).length = (Nb0 l).length := by rw [hfL, List.length_append]
 rw [hlen]
 have hw1 : NcL? st3 (.rsl k 1 0 (Nb0 l).length) = some (k, 1, (Nb0 l).length, Nab (Nb0 l)) := by
  unfold NcL?
  simp only [hk, Nah]
  rw [if_pos ⟨trivial, by omega, by omega⟩]
 unfold Nav
 simp only [NaR, hw1, NbP, NaA (Nbq _)]
 rfl
end Go.Pe
